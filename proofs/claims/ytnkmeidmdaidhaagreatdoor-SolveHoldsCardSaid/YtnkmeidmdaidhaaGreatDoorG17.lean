/- Merging in place: plain facts. No condition. -/
import Derived.Test.YtnkmeidmdaidhaaGreatDoorG16
set_option linter.unusedSimpArgs false
set_option linter.unusedVariables false
namespace Go.Am
variable {a b c e i j k m mid r s:Nat} {l l' l1:aN}
theorem EH (a:ae):bg a a=0:=OH _
theorem V1 {a b c:ae} (h1:bg a b<=0) (h2:bg b c < 0):bg a c < 0:=by
 by_cases h:bg a c < 0
 .exact h
 .have h3:=Ev (GO h) h1
  have h4:=Gg b c
  omega
theorem V2 {a b c:ae} (h1:bg a b < 0) (h2:bg b c<=0):bg a c < 0:=by
 by_cases h:bg a c < 0
 .exact h
 .have h3:=Ev h2 (GO h)
  have h4:=Gg a b
  omega
theorem wV (h:gC l a b) (hi:a<=i) (fk:i<=j) (hj:j < b):bg (l.getD i ah) (l.getD j ah)<=0:=by
 induction j with
 |zero =>
  have:i=0:=by omega
  subst this
  rw [EH]
  exact Int.le_refl _
 |succ j ih =>
  by_cases e:i=j+1
  .subst e
   rw [EH]
   exact Int.le_refl _
  .exact Ev (ih (by omega) (by omega)) (h (j+1) (by omega) hj)
structure Mv (l l':aN) (a b:Nat):Prop where
 perm:l'.Perm l
 out:EN l l' a b
 Km:∀ i,a<=i->i < b->∃ j,a<=j/\j < b/\l'.getD i ah=l.getD j ah
 wQ:eI l l'
theorem Mv.refl (l:aN) (a b:Nat):Mv l l a b:=⟨List.Perm.refl _,λ_ _=>rfl,λi h1 h2=>⟨i,h1,h2,rfl⟩,eI.refl l⟩
theorem Mv.trans {l l1 l2:aN} {a b:Nat} (x:Mv l l1 a b) (y:Mv l1 l2 a b):Mv l l2 a b:=⟨y.perm.trans x.perm,λk hk=>(y.out k hk).trans (x.out k hk),λi h1 h2=>by
 obtain ⟨j,g1,g2,g3⟩:=y.Km i h1 h2
 obtain ⟨k,f1,f2,f3⟩:=x.Km j g1 g2
 exact ⟨k,f1,f2,g3.trans f3⟩,x.wQ.trans y.wQ⟩
theorem Mv.wT {a' b':Nat} (x:Mv l l' a b) (ha:a'<=a) (hb:b<=b'):Mv l l' a' b':=⟨x.perm,λk hk=>x.out k (by omega),λi h1 h2=>by
 by_cases h:a<=i/\i < b
 .obtain ⟨j,g1,g2,g3⟩:=x.Km i h.1 h.2
  exact ⟨j,by omega,by omega,g3⟩
 .exact ⟨i,h1,h2,x.out i (by omega)⟩,x.wQ⟩
theorem Mv.swap (hi:a<=i/\i < b) (hj:a<=j/\j < b) (hb:b<=l.length) (hs:eI l (j5 l i j)):Mv l (j5 l i j) a b:=by
 have g:=λk=>BK (l:=l) (i:=i) (j:=j) (by omega) (by omega) k
 refine ⟨VU (by omega) (by omega),λk hk=>?_,λk h1 h2=>?_,hs⟩
 .rw [g,aA (by omega),aA (by omega)]
 .rw [g]
  split
  .exact ⟨i,by omega,by omega,rfl⟩
  .split
   .exact ⟨j,by omega,by omega,rfl⟩
   .exact ⟨k,h1,h2,rfl⟩
def Ch (l l1:aN) (s m e:Nat):Prop:=∀ k,l1.getD k ah=if s<=k/\k < e then (if k < s+(e - m) then l.getD (k+(m - s)) ah else l.getD (k - (e - m)) ah) else l.getD k ah
theorem zyP (hs:s<=m) (he:m<=e) (h:s=m\/m=e):Ch l l s m e:=by
 intro k
 repeat' split
 all_goals first|rfl|(exfalso;omega)|(congr 1;omega)
theorem zyO (h:Ch l l1 s m e) (hs:s<=m) (he:m<=e) (hp:l1.Perm l) (cV:eI l l1):Mv l l1 s e:=by
 refine ⟨hp,λk hk=>?_,λk h1 h2=>?_,cV⟩
 .rw [h,aA (by omega)]
 .rw [h,aB ⟨h1,h2⟩]
  split
  .exact ⟨k+(m - s),by omega,by omega,rfl⟩
  .exact ⟨k - (e - m),by omega,by omega,rfl⟩
theorem zAi (h2:gC l (a+1) b) (Nn:a+1<=i) (Nh:i<=b) (hl:i=a+1\/bg (l.getD (i - 1) ah) (l.getD a ah) < 0) (hr:i=b\/¬ bg (l.getD i ah) (l.getD a ah) < 0)
 (JA:∀ x,l'.getD x ah=if a<=x/\x < i - 1 then l.getD (x+1) ah else if x=i - 1 then l.getD a ah else l.getD x ah):gC l' a b:=by
 intro p h1 h3
 rw [JA,JA]
 by_cases c1:p < i - 1
 .rw [aB (by omega),aB (by omega)]
  have:=h2 (p+1) (by omega) (by omega)
  rw [Cf] at this
  rw [show p - 1+1=p by omega]
  exact this
 .by_cases c2:p=i - 1
  .subst c2
   rw [aB (by omega),aA (by omega),aB rfl,show i - 1 - 1+1=i - 1 by omega]
   rcases hl with hl|hl
   .omega
   .exact Int.le_of_lt hl
  .by_cases c3:p=i
   .subst c3
    rw [aA (by omega),aB rfl,aA (by omega),aA (by omega)]
    rcases hr with hr|hr
    .omega
    .exact GO hr
   .rw [aA (by omega),aA (by omega),aA (by omega),aA (by omega)]
    exact h2 p (by omega) h3
theorem zx1 (h1:gC l a m) (Sh:a<=i) (tf:i<=m) (hl:i=a\/¬ bg (l.getD m ah) (l.getD (i - 1) ah) < 0) (hr:i=m\/bg (l.getD m ah) (l.getD i ah) < 0)
 (JA:∀ x,l'.getD x ah=if x=i then l.getD m ah else if i < x/\x<=m then l.getD (x - 1) ah else l.getD x ah):gC l' a (m+1):=by
 intro p h2 h3
 rw [JA,JA]
 by_cases c1:p < i
 .rw [aA (by omega),aA (by omega),aA (by omega),aA (by omega)]
  exact h1 p h2 (by omega)
 .by_cases c2:p=i
  .subst c2
   rw [aA (by omega),aA (by omega),aB rfl]
   rcases hl with hl|hl
   .omega
   .exact GO hl
  .by_cases c3:p=i+1
   .subst c3
    rw [aB (by omega),aA (by omega),aB (by omega),Cf]
    rcases hr with hr|hr
    .omega
    .exact Int.le_of_lt hr
   .rw [aA (by omega),aB (by omega),aA (by omega),aB (by omega)]
    exact h1 (p - 1) (by omega) (by omega)
structure nW (l:aN) (a m b mid s:Nat):Prop where
 lo:a<=s
 hi:s<=m
 tf:s<=mid
 ge:m<=mid+m - s
 le:mid+m - s<=b
 cl:s=a\/mid+m - s=b\/bg (l.getD (s - 1) ah) (l.getD (mid+m - s) ah)<=0
 cr:s=m\/s=mid\/bg (l.getD (mid+m - 1 - s) ah) (l.getD s ah) < 0
theorem zqZ (h1:gC l a m) (h2:gC l m b) (p:nW l a m b mid s) (t:Ch l l1 s m (mid+m - s)) :
 gC l1 a s/\gC l1 s mid/\gC l1 mid (mid+m - s)/\gC l1 (mid+m - s) b:=by
 obtain ⟨lo,hi,tf,ge,le,cl,cr⟩:=p
 refine ⟨λk g1 g2=>?_,λk g1 g2=>?_,λk g1 g2=>?_,λk g1 g2=>?_⟩
 .rw [t,t,aA (by omega),aA (by omega)]
  exact h1 k g1 (by omega)
 .rw [t,t,aB (by omega),aB (by omega),aB (by omega),aB (by omega),show k - 1+(m - s)=k+(m - s) - 1 by omega]
  exact h2 _ (by omega) (by omega)
 .rw [t,t,aB (by omega),aA (by omega),aB (by omega),aA (by omega),show k - 1 - (mid+m - s - m)=k - (mid+m - s - m) - 1 by omega]
  exact h1 _ (by omega) (by omega)
 .rw [t,t,aA (by omega),aA (by omega)]
  exact h2 k (by omega) g2
theorem zqY (h1:gC l a m) (h2:gC l m b) (p:nW l a m b mid s) (t:Ch l l1 s m (mid+m - s)) (hi:a<=i) (tf:i < mid) (hj:mid<=j) (Zi:j < b) :
 bg (l1.getD i ah) (l1.getD j ah)<=0:=by
 obtain ⟨lo,vF,ahQ,ge,le,cl,cr⟩:=p
 rw [t,t]
 by_cases c1:s<=i
 .-- from behind m
  rw [aB (by omega),aB (by omega)]
  by_cases c2:j < mid+m - s
  .rw [aB (by omega),aA (by omega)]
   rcases cr with cr|cr|cr
   .omega
   .omega
   .exact Ev (wV h2 (i:=i+(m - s)) (j:=mid+m - 1 - s) (by omega) (by omega) (by omega)) (Ev (Int.le_of_lt cr) (wV h1 (i:=s) (by omega) (by omega) (by omega)))
  .rw [aA (by omega)]
   exact wV h2 (by omega) (by omega) Zi
 .rw [aA (by omega)]
  by_cases c2:j < mid+m - s
  .rw [aB (by omega),aA (by omega)]
   exact wV h1 hi (by omega) (by omega)
  .rw [aA (by omega)]
   rcases cl with cl|cl|cl
   .omega
   .omega
   .exact Ev (wV h1 (i:=i) (j:=s - 1) hi (by omega) (by omega)) (Ev cl (wV h2 (i:=mid+m - s) (by omega) (by omega) Zi))
theorem zoK {l2 l3:aN} (hc:∀ i j,a<=i->i < mid->mid<=j->j < b->bg (l1.getD i ah) (l1.getD j ah)<=0) (x:Mv l1 l2 a mid) (y:Mv l2 l3 mid b) (h2:gC l2 a mid) (h3:gC l3 mid b):gC l3 a b:=by
 intro p h4 h5
 by_cases c1:p < mid
 .rw [y.out _ (.inl (by omega)),y.out _ (.inl c1)]
  exact h2 p h4 c1
 .by_cases c2:p=mid
  .subst c2
   obtain ⟨j,g1,g2,g3⟩:=y.Km p (by omega) h5
   obtain ⟨i,f1,f2,f3⟩:=x.Km (p - 1) (by omega) (by omega)
   rw [y.out _ (.inl (by omega)),g3,x.out j (.inr (by omega)),f3]
   exact hc i j f1 f2 g1 g2
  .exact h3 p (by omega) h5
def uM (l l1:aN) (a k:Nat):Prop:=∀ x,l1.getD x ah=if a<=x/\x < k then l.getD (x+1) ah else if x=k then l.getD a ah else l.getD x ah
theorem zuB (l:aN) (a:Nat):uM l l a a:=by
 intro x
 repeat' split
 all_goals first|rfl|(exfalso;omega)|(congr 1;done)|(subst x;rfl)
theorem zxc (h:uM l l1 a k) (hak:a<=k) (hk:k+1 < l1.length):uM l (j5 l1 k (k+1)) a (k+1):=by
 intro x
 rw [BK (by omega) (by omega),h x,h k,h (k+1)]
 repeat' split
 all_goals first|rfl|(exfalso;omega)|(congr 1;omega)
def L7 (l l1:aN) (m k:Nat):Prop:=∀ x,l1.getD x ah=if x=k then l.getD m ah else if k < x/\x<=m then l.getD (x - 1) ah else l.getD x ah
theorem zoi (l:aN) (m:Nat):L7 l l m m:=by
 intro x
 repeat' split
 all_goals first|rfl|(exfalso;omega)|(subst x;rfl)
theorem zqh (h:L7 l l1 m k) (rY:0 < k) (Dq:k<=m) (hm:m < l1.length):L7 l (j5 l1 k (k - 1)) m (k - 1):=by
 intro x
 rw [BK (by omega) (by omega),h x,h k,h (k - 1)]
 repeat' split
 all_goals first|rfl|(exfalso;omega)|(congr 1;omega)
structure gL (l:aN) (a m b mid s r:Nat):Prop where
 sr:s<=r
 FY:m<=mid->a<=s/\r<=m
 FZ:mid < m->mid+m - b<=s/\r<=mid
 cl:(s=a/\m<=mid)\/(mid < m/\s=mid+m - b)\/bg (l.getD (s - 1) ah) (l.getD (mid+m - s) ah)<=0
 cr:(r=m/\m<=mid)\/(mid < m/\r=mid)\/bg (l.getD (mid+m - 1 - r) ah) (l.getD r ah) < 0
theorem zyJ (oY:a < m) (h:m<=mid):gL l a m b mid a m:=⟨by omega,λ_=>by omega,λ_=>by omega,.inl ⟨rfl,h⟩,.inl ⟨rfl,h⟩⟩
theorem zyK (za:m < b) (h:mid < m):gL l a m b mid (mid+m - b) mid:=⟨by omega,λ_=>by omega,λ_=>by omega,.inr (.inl ⟨h,rfl⟩),.inr (.inl ⟨h,rfl⟩)⟩
theorem zwW (h:gL l a m b mid s r) (h1:s<=c) (h2:c < r) (hc:¬ bg (l.getD (mid+m - 1 - c) ah) (l.getD c ah) < 0):gL l a m b mid (c+1) r:=by
 refine ⟨by omega,λg=>?_,λg=>?_,.inr (.inr ?_),h.cr⟩
 .have:=h.FY g;omega
 .have:=h.FZ g;omega
 .rw [Cf,show mid+m - (c+1)=mid+m - 1 - c by omega]
  exact GO hc
theorem zq7 (h:gL l a m b mid s r) (h1:s<=c) (h2:c < r) (hc:bg (l.getD (mid+m - 1 - c) ah) (l.getD c ah) < 0):gL l a m b mid s c:=by
 refine ⟨h1,λg=>?_,λg=>?_,h.cl,.inr (.inr hc)⟩
 .have:=h.FY g;omega
 .have:=h.FZ g;omega
theorem zlE (h:gL l a m b mid s s) (oY:a < m) (za:m < b) (gF:2*mid<=a+b) (ff:a+b<=2*mid+1):nW l a m b mid s:=by
 obtain ⟨sr,FY,FZ,cl,cr⟩:=h
 rcases mM mid m with g|g
 .obtain ⟨f1,f2⟩:=FZ g
  refine ⟨by omega,by omega,f2,by omega,by omega,?_,?_⟩
  .rcases cl with ⟨e,_⟩|⟨_,e⟩|e
   .exact .inl e
   .exact .inr (.inl (by omega))
   .exact .inr (.inr e)
  .rcases cr with ⟨e,_⟩|⟨_,e⟩|e
   .exact .inl e
   .exact .inr (.inl e)
   .exact .inr (.inr e)
 .obtain ⟨f1,f2⟩:=FY g
  refine ⟨f1,f2,by omega,by omega,by omega,?_,?_⟩
  .rcases cl with ⟨e,_⟩|⟨_,e⟩|e
   .exact .inl e
   .exact .inr (.inl (by omega))
   .exact .inr (.inr e)
  .rcases cr with ⟨e,_⟩|⟨_,e⟩|e
   .exact .inl e
   .exact .inr (.inl e)
   .exact .inr (.inr e)
theorem zwV (h:gL l a m b mid s r) (h1:s<=c) (h2:c < r) (oY:a < m) (za:m < b) (gF:2*mid<=a+b) (ff:a+b<=2*mid+1):c+1<=m/\m<=mid+m - 1 - c/\mid+m - 1 - c < b/\c+1<=mid+m:=by
 rcases mM mid m with g|g
 .obtain ⟨f1,f2⟩:=h.FZ g
  omega
 .obtain ⟨f1,f2⟩:=h.FY g
  omega
theorem NT (h:gC l a b) (he:∀ k,a<=k->k < b->l'.getD k ah=l.getD k ah):gC l' a b:=by
 intro k h1 h2
 rw [he k (by omega) h2,he (k - 1) (by omega) (by omega)]
 exact h k h1 h2
theorem zyr (hs:s<=m) (he:m<=e) (hl:e<=l.length):l=l.take s++((l.take m).drop s++((l.take e).drop m++l.drop e)):=by
 apply xi
 intro k
 simp only [Aj,gR,mB,qF,lJ]
 repeat' split
 all_goals first|rfl|(exfalso;omega)|(congr 1;omega)
theorem zAO (t:Ch l l1 s m e) (hs:s<=m) (he:m<=e) (hl:e<=l.length) (hlen:l1.length=l.length):l1=l.take s++((l.take e).drop m++((l.take m).drop s++l.drop e)):=by
 refine WQ (by simp only [cT,gR,mB];omega) (λk=>?_)
 rw [t k]
 simp only [ni,Aj,gR,mB,qF,lJ]
 repeat' split
 all_goals first|rfl|(exfalso;omega)|(congr 2;omega)
theorem zw7 (t:Ch l l1 s m e) (hs:s<=m) (he:m<=e) (hl:e<=l.length) (hlen:l1.length=l.length) (aL:∀ i j,s<=i->i < m->m<=j->j < e->iu (l.getD i ah)≠iu (l.getD j ah)):eI l l1:=by
 intro x
 rw [zAO t hs he hl hlen]
 conv=>rhs;rw [zyr hs he hl]
 simp only [L4]
 by_cases hu:((l.take m).drop s).filter (λy=>iu y == x)=[]
 .rw [hu]
  simp
 .have hv:((l.take e).drop m).filter (λy=>iu y == x)=[]:=by
   rw [OW]
   intro y hy zo
   apply hu
   rw [OW]
   intro z hz ZS
   obtain ⟨j,hj⟩:=E6 hy
   obtain ⟨i,hi⟩:=E6 hz
   rw [lJ,qF] at hj hi
   split at hj
   .split at hi
    .rename_i g1 g2
     refine aL (s+i) (m+j) (by omega) g2 (by omega) g1 ?_
     rw [ni,ni,hj,hi]
     simp only [Aq]
     rw [beq_iff_eq] at zo ZS
     rw [zo,ZS]
    .cases hi
   .cases hj
  rw [hv]
  simp
theorem zuk (h1:gC l a m) (h2:gC l m b) (p:nW l a m b mid s) (t:Ch l l1 s m (mid+m - s)) (hb:b<=l.length) (hlen:l1.length=l.length):eI l l1:=by
 obtain ⟨lo,hi,tf,ge,le,cl,cr⟩:=p
 refine zw7 t hi ge (by omega) hlen (λi j g1 g2 g3 g4 e=>?_)
 rcases cr with cr|cr|cr
 .omega
 .omega
 .have f1:=wV h2 (i:=j) (j:=mid+m - 1 - s) g3 (by omega) (by omega)
  have f2:=wV h1 (i:=s) (j:=i) lo g1 g2
  exact OV (V2 (V1 f1 cr) f2) e.symm
theorem zxd (h2:gC l (a+1) b) (Nh:i<=b) (hl:i=a+1\/bg (l.getD (i - 1) ah) (l.getD a ah) < 0) (hak:a<=k) (hk:k < i - 1) (u:uM l l1 a k):bg (l1.getD (k+1) ah) (l1.getD k ah) < 0:=by
 rw [u,u,aA (by omega),aA (by omega),aA (by omega),aB rfl]
 rcases hl with hl|hl
 .omega
 .exact V1 (wV h2 (i:=k+1) (j:=i - 1) (by omega) (by omega) (by omega)) hl
theorem zqi (h1:gC l a m) (Sh:a<=i) (hr:i=m\/bg (l.getD m ah) (l.getD i ah) < 0) (vG:i < k) (Dq:k<=m) (u:L7 l l1 m k):bg (l1.getD k ah) (l1.getD (k - 1) ah) < 0:=by
 rw [u,u,aB rfl,aA (by omega),aA (by omega)]
 rcases hr with hr|hr
 .omega
 .exact V2 hr (wV h1 (i:=i) (j:=k - 1) Sh (by omega) (by omega))
end Go.Am
namespace Go.Am
variable {a n w:Nat} {l:aN}
theorem OZ {P:Program} {T:bN} {t:TypeId} {k:IntKind} {a b:Int}:cE P T .mul t (.int k a) (.int k b)=some (.int k (k.wrap (a*b))):=by
 have h1:((T.desc t).bind λd=>Cn d (.int k a) (.int k b))=none:=by
  cases T.desc t with
  |none=>rfl
  |some d=>cases d <;> rfl
 have h2:gd P (binOp .mul t (.int k a) (.int k b))=some (.int k (k.wrap (a*b))):=by
  simp [binOp,Op.intArith,B0]
 unfold cE
 have hf:qy .mul (.int k a) (.int k b)=none:=rfl
 rw [hf]
 simp [h1,h2]
 exact ⟨⟨rfl,rfl⟩,rfl⟩
theorem W1 {s:Nat} (h1:s % w=0) (h2:a % w=0) (h:s < a):s+w<=a:=by
 obtain ⟨i,rfl⟩:=Nat.dvd_of_mod_eq_zero h1
 obtain ⟨j,rfl⟩:=Nat.dvd_of_mod_eq_zero h2
 have fk:i < j:=Nat.lt_of_mul_lt_mul_left h
 rw [show w*i+w=w*(i+1) from (Nat.mul_succ w i).symm]
 exact Nat.mul_le_mul_left w fk
def Bl (l:aN) (w n a:Nat):Prop:=∀ s,s % w=0->s < a->gC l s (min (s+w) n)
theorem WY {l':aN} (h:Bl l w n a) (ha:a % w=0) (hs:gC l' a (min (a+w) n)) (ho:EN l l' a (min (a+w) n)) (b:Nat) (hb:b<=a+w):Bl l' w n b:=by
 intro s h1 h2
 rcases G2 s a with g|g|g
 .have:=W1 h1 ha g
  exact NT (h s h1 g) (λk _ _=>ho k (.inl (by omega)))
 .subst g
  exact hs
 .have:=W1 ha h1 g
  omega
theorem zA8 (h:Bl l w n n) (hw:n<=w):gC l 0 n:=by
 intro k h1 h2
 exact h 0 (Nat.zero_mod _) (by omega) k h1 (by omega)
structure Cp (l:aN) (w n a:Nat):Prop where
 lo:Bl l (2*w) n a
 hi:∀ s,s % w=0->a<=s->s < n->gC l s (min (s+w) n)
theorem zvo (h:Bl l w n n):Cp l w n 0:=⟨λs _ g=>absurd g (by omega),λs h1 _ h2=>h s h1 h2⟩
theorem zv9 (h:a % (2*w)=0):a % w=0/\(a+w) % w=0:=by
 obtain ⟨i,rfl⟩:=Nat.dvd_of_mod_eq_zero h
 have h1:2*w*i % w=0:=by rw [show 2*w*i=w*(2*i) by rw [xk 2 w,Nat.mul_assoc]];exact Nat.mul_mod_right _ _
 exact ⟨h1,by rw [Nat.add_mod_right];exact h1⟩
theorem zod (h:Cp l w n a) (hw:0 < w) (ha:a % (2*w)=0) (hn:a+w < n):gC l a (a+w)/\gC l (a+w) (min (a+2*w) n):=by
 have:=zv9 ha
 have g1:=h.hi a this.1 (by omega) (by omega)
 have g2:=h.hi (a+w) this.2 (by omega) hn
 rw [show min (a+w) n=a+w by omega] at g1
 rw [show min (a+w+w) n=min (a+2*w) n by omega] at g2
 exact ⟨g1,g2⟩
theorem zrH {l':aN} (h:Cp l w n a) (hw:0 < w) (ha:a % (2*w)=0) (hs:gC l' a (min (a+2*w) n)) (hm:Mv l l' a (min (a+2*w) n)):Cp l' w n (min (a+2*w) n):=by
 refine ⟨WY h.lo ha hs hm.out _ (by omega),λs h1 h2 h3=>?_⟩
 exact NT (h.hi s h1 (by omega) h3) (λk _ _=>hm.out k (.inr (by omega)))
theorem zz4 (h:Cp l w n a) (hw:0 < w) (ha:a % (2*w)=0) (hn:n<=a+w):Bl l (2*w) n n:=by
 intro s h1 h2
 rcases G2 s a with g|g|g
 .exact h.lo s h1 g
 .subst g
  have:=h.hi s (zv9 ha).1 (by omega) h2
  rw [show min (s+w) n=min (s+2*w) n by omega] at this
  exact this
 .have:=W1 ha h1 g
  omega
theorem zz3 (h:Cp l w n a) (hn:n<=a):Bl l (2*w) n n:=λs h1 h2=>h.lo s h1 (by omega)
end Go.Am
