/- Strings in order, and the texts of atoms: plain facts about lists of bytes. No condition. -/
import Derived.Lib.Bytealg
import Derived.Test.YtkgojconmeeegaaGreatDoorG11
set_option linter.unusedSimpArgs false
set_option linter.unusedVariables false
namespace Go.Am
open Go.Lib
abbrev Bs:=List UInt8
theorem zfY (a:UInt8):¬ a < a:=by rw [UInt8.lt_iff_toNat_lt];omega
theorem ztL {a b:UInt8} (h1:¬ a < b) (h2:¬ b < a):a=b:=by
 rw [UInt8.lt_iff_toNat_lt] at h1 h2
 exact UInt8.toNat_inj.1 (by omega)
theorem RA:∀ a:Bs,compareBytes a a=0
 | []=>rfl
 |a::al=>by rw [compareBytes,az (zfY a),az (zfY a)];exact RA al
theorem Jt:∀ {a b:Bs},compareBytes a b=0->a=b
 | [],[],_=>rfl
 | [],_::_,h=>by simp [compareBytes] at h
 |_::_,[],h=>by simp [compareBytes] at h
 |a::al,b::bs,h=>by
  rw [compareBytes] at h
  split at h
  .simp at h
  .rename_i h1
   split at h
   .simp at h
   .rename_i h2
    rw [ztL h1 h2,Jt h]
theorem zmz:∀ a b:Bs,compareBytes a b = - compareBytes b a
 | [],[]=>rfl
 | [],_::_=>rfl
 |_::_,[]=>rfl
 |a::al,b::bs=>by
  rw [compareBytes,compareBytes]
  by_cases h1:a < b
  .have h2:¬ b < a:=by rw [UInt8.lt_iff_toNat_lt] at h1 ⊢;omega
   rw [aE h1,az h2,aE h1]
  .rw [az h1]
   by_cases h2:b < a
   .rw [aE h2,aE h2];rfl
   .rw [az h2,az h2,az h1];exact zmz al bs
theorem zoD:∀ a b:Bs,compareBytes a b = -1\/compareBytes a b=0\/compareBytes a b=1
 | [],[]=>.inr (.inl rfl)
 | [],_::_=>.inl rfl
 |_::_,[]=>.inr (.inr rfl)
 |a::al,b::bs=>by
  rw [compareBytes]
  split
  .exact .inl rfl
  .split
   .exact .inr (.inr rfl)
   .exact zoD al bs
theorem zoE:∀ {a b c:Bs},compareBytes a b < 0->compareBytes b c < 0->compareBytes a c < 0
 | [],[],_,h,_=>by simp [compareBytes] at h
 | [],_::_,[],_,h=>by simp [compareBytes] at h
 | [],_::_,_::_,_,_=>by simp [compareBytes]
 |_::_,[],_,h,_=>by simp [compareBytes] at h
 |_::_,_::_,[],_,h=>by simp [compareBytes] at h
 |a::al,b::bs,c::cs,h,k=>by
  rw [compareBytes] at h k ⊢
  simp only [UInt8.lt_iff_toNat_lt] at h k ⊢
  by_cases h1:a.toNat < b.toNat
  .by_cases h2:b.toNat < c.toNat
   .rw [aE (by omega)];decide
   .rw [az h2] at k
    split at k
    .simp at k
    .rw [aE (by omega)];decide
  .rw [az h1] at h
   split at h
   .simp at h
   .by_cases h2:b.toNat < c.toNat
    .rw [aE (by omega)];decide
    .rw [az h2] at k
     split at k
     .simp at k
     .rw [az (by omega),az (by omega)]
      exact zoE h k

def pt (c:UInt8):Prop:=c.toNat≠32/\c.toNat≠40/\c.toNat≠41/\c.toNat≠44
def Word (s:Bs):Prop:=∀ c∈s,pt c
theorem HB:∀ {s t x y:Bs} {c d:UInt8},Word s->Word t->¬ pt c->¬ pt d->s++c::x=t++d::y->s=t/\c=d/\x=y
 | [],[],x,y,c,d,_,_,_,_,h=>by simp at h;exact ⟨rfl,h.1,h.2⟩
 | [],b::t,x,y,c,d,_,ht,hc,_,h=>by
  simp at h
  exact (hc (by rw [h.1];exact ht b (by simp))).elim
 |a::s,[],x,y,c,d,hs,_,_,hd,h=>by
  simp at h
  exact (hd (by rw [<- h.1];exact hs a (by simp))).elim
 |a::s,b::t,x,y,c,d,hs,ht,hc,hd,h=>by
  simp at h
  obtain ⟨h1,h2,h3⟩:=HB (λq hq=>hs q (by simp [hq])) (λq hq=>ht q (by simp [hq])) hc hd h.2
  exact ⟨by rw [h.1,h1],h2,h3⟩
theorem znD:∀ {s t y:Bs} {d:UInt8},Word s->¬ pt d->s≠t++d::y
 | [],t,y,d,_,_,h=>by cases t <;> simp at h
 |a::s,[],y,d,hs,hd,h=>by
  simp at h
  exact hd (by rw [<- h.1];exact hs a (by simp))
 |a::s,b::t,y,d,hs,hd,h=>by
  simp at h
  exact znD (λq hq=>hs q (by simp [hq])) hd h.2
def Kk (names:List Bs):Bs:=match names with
 | []=>[]
 |n::ns=>40::(join (n::ns) [44,32]++[41])
def SP (says pred:Bs) (names:List Bs):Bs:=says++[32,115,97,121,115,32]++pred++Kk names
theorem Uk (n m:Bs) (ns:List Bs):join (n::m::ns) [44,32]=n++(44::32::join (m::ns) [44,32]):=by
 simp [join,List.intercalate]
theorem zte:∀ {l m:List Bs},(∀ n∈l,Word n)->(∀ n∈m,Word n)->l≠[]->m≠[]->join l [44,32]++[41]=join m [44,32]++[41]->l=m
 | [],_,_,_,h,_,_=>(h rfl).elim
 |_::_,[],_,_,_,h,_=>(h rfl).elim
 | [a],[b],ha,hb,_,_,h=>by
  rw [join_one,join_one] at h
  rw [(HB (ha a (by simp)) (hb b (by simp)) (by simp [pt]) (by simp [pt]) h).1]
 | [a],b::c::m,ha,hb,_,_,h=>by
  rw [join_one,Uk] at h
  simp only [jD,wt] at h
  have:=(HB (ha a (by simp)) (hb b (by simp)) (by simp [pt]) (by simp [pt]) h).2.1
  simp at this
 |a::c::l,[b],ha,hb,_,_,h=>by
  rw [join_one,Uk] at h
  simp only [jD,wt] at h
  have:=(HB (ha a (by simp)) (hb b (by simp)) (by simp [pt]) (by simp [pt]) h).2.1
  simp at this
 |a::c::l,b::d::m,ha,hb,_,_,h=>by
  rw [Uk,Uk] at h
  simp only [jD,wt] at h
  obtain ⟨h1,_,h3⟩:=HB (ha a (by simp)) (hb b (by simp)) (by simp [pt]) (by simp [pt]) h
  simp only [List.cons.injEq,true_and] at h3
  have:=zte (λn hn=>ha n (by simp at hn ⊢;exact .inr hn)) (λn hn=>hb n (by simp at hn ⊢;exact .inr hn)) (by simp) (by simp) h3
  rw [h1,this]
theorem zA3 {s s' p p':Bs} {l l':List Bs} (hs:Word s) (mh:Word s') (hp:Word p) (pW:Word p') (hl:∀ n∈l,Word n) (BP:∀ n∈l',Word n) (h:SP s p l=SP s' p' l'):s=s'/\p=p'/\l=l':=by
 unfold SP at h
 simp only [jD,wt,qu] at h
 obtain ⟨h1,_,h2⟩:=HB hs mh (by simp [pt]) (by simp [pt]) h
 simp only [List.cons.injEq,true_and] at h2
 cases l with
 |nil =>
  cases l' with
  |nil=>simp only [Kk,bu] at h2;exact ⟨h1,h2,rfl⟩
  |cons n' ns' =>
   simp only [Kk,bu] at h2
   exact (znD hp (by simp [pt]) h2).elim
 |cons n ns =>
  cases l' with
  |nil =>
   simp only [Kk,bu] at h2
   exact (znD pW (by simp [pt]) h2.symm).elim
  |cons n' ns' =>
   simp only [Kk] at h2
   obtain ⟨h3,_,h4⟩:=HB hp pW (by simp [pt]) (by simp [pt]) h2
   exact ⟨h1,h3,zte hl BP (by simp) (by simp) h4⟩
end Go.Am
namespace Go.Am
variable {b x:ak} {a i j k m:Nat} {cur l l1 new t:aW}
def aS (l:aW):List ae:=l.flatMap ak.cells
theorem ob (l:aW):(aS l).length=l.length*11:=by
 unfold aS
 induction l with
 |nil=>rfl
 |cons x l ih=>rw [J4,cW,ih,de];show 11+_=_;omega
theorem ztD (h:l[i]? = some x):cut (aS l) (i*11) 11=some x.cells:=by
 have hi:=(dz.1 h).1
 unfold cut
 rw [aE (by rw [ob];omega)]
 congr 1
 unfold aS
 induction l generalizing i with
 |nil=>simp at h
 |cons y l ih =>
  cases i with
  |zero =>
   simp at h
   subst h
   rfl
  |succ i =>
   rw [J4,show (i+1)*11=y.cells.length+i*11 by show _=11+_;omega,R9]
   have h2:y.cells.drop (y.cells.length+i*11)=[]:=zE (by omega)
   rw [h2,qu,UC]
   exact ih (by simpa using h) (by simpa using hi)
theorem ztE (hi:i < l.length):aF (aS l) (i*11) x.cells=aS (l.set i x):=by
 unfold aF
 have hx:x.cells.length=11:=rfl
 rw [hx]
 unfold aS
 induction l generalizing i with
 |nil=>simp at hi
 |cons y l ih =>
  have hy:y.cells.length=11:=rfl
  cases i with
  |zero =>
   rw [gX,J4,J4,Nat.zero_mul,zP,qu,iu,R9,zE (by omega),hy]
   simp
  |succ i =>
   rw [EM,J4,J4,<- ih (i:=i) (by simpa using hi)]
   rw [show (i+1)*11=y.cells.length+i*11 by omega,List.take_append,fX (by omega),UC,show y.cells.length+i*11+11=y.cells.length+(i*11+11) by omega,R9,zE (by omega),UC]
   simp
theorem CG {T:bL} {t u:TypeId} {A:Nat} {h1:Heap} {bs:List bh} {w:Nat} {K:aG} (q:Holds h1 A (.row (aS l) u false)) (hs:cN T t=some 11) (hi:i < l.length)
 (hK:∀ h',Holds h' A (.row (aS (l.set i x)) u false)->fB A (h1.lay bs w) h'->K undef h'):iH (iS T t (.pointer (some ⟨A,i*11,none⟩)) x.val (h1.lay bs w)) K:=by
 have hg:(h1.lay bs w).get A=some (.row (aS l) u false):=q.lay bs w
 have hA:A < (h1.lay bs w).size:=(q.on bs w).lt
 have he:iS T t (.pointer (some ⟨A,i*11,none⟩)) x.val (h1.lay bs w)=some ((h1.lay bs w).set A (.row (aS (l.set i x)) u false)):=by
  unfold iS
  simp only [hs,dX]
  have h1:x.val.cells.toList=x.cells:=rfl
  have h2:x.val.cells.size=11:=rfl
  have h3:x.cells.length=11:=rfl
  have h4:x.cells.all one=true:=rfl
  rw [aE h2,h1]
  unfold kH
  rw [hg]
  simp only
  rw [aE (by simp only [dP,gY];exact ⟨by rw [ob,h3];omega,h4⟩),ztE hi]
 rw [he]
 refine hK _ ⟨by rw [Heap.size_set];exact hA,by rw [Heap.aR _ _ _ _ hA,aE rfl]⟩ ⟨by rw [Heap.size_set];exact bo _,λB hB ba=>by rw [Heap.aR _ _ _ _ hA,az ba],by rw [Heap.bX];omega⟩
theorem oR {u:TypeId} {A:Nat} {ro:Bool} {h1:Heap} {bs:List bh} {w:Nat} (q:Holds h1 A (.row (aS l) u ro)) (hx:l[i]? = some x):Bv ((h1.lay bs w).get A) (i*11) 11=some x.val:=by
 have hh:(h1.lay bs w).get A=some (.row (aS l) u ro):=q.lay bs w
 rw [hh]
 show (cut (aS l) (i*11) 11).map _=_
 rw [ztD hx]
 rfl
def lh (l:aW) (i j:Nat):aW:=(l.set i (l.getD j ab)).set j (l.getD i ab)
theorem zix (l:aW) (i j:Nat):(lh l i j).length=l.length:=by unfold lh;rw [nU,nU]
theorem jf (h:i < l.length):l[i]? = some (l.getD i ab):=by
 rw [kK,gI h]
 rfl
theorem Ev (hi:i < l.length) (hj:j < l.length) (k:Nat):(lh l i j).getD k ab=if k=j then l.getD i ab else if k=i then l.getD j ab else l.getD k ab:=by
 unfold lh
 rw [kK,sX,nU]
 by_cases h1:j=k
 .subst h1
  rw [aE rfl,aE hj,aE rfl]
  rfl
 .rw [az h1,az (λe=>h1 e.symm),sX]
  by_cases h2:i=k
  .subst h2
   rw [aE rfl,aE hi,aE rfl]
   rfl
  .rw [az h2,az (λe=>h2 e.symm),kK]
theorem zh0 (hi:i < l.length) (hj:j < l.length):(lh l i j).Perm l:=by
 unfold lh
 have e1:l.getD i ab=l[i]:=by rw [kK,gI hi];rfl
 have e2:l.getD j ab=l[j]:=by rw [kK,gI hj];rfl
 rw [e1,e2]
 exact List.set_set_perm hi hj
theorem wS (a b:ak):aT a b = - aT b a:=zmz _ _
theorem JB {a:ak} (h:¬ aT a b < 0):aT b a<=0:=by
 rw [wS b a]
 omega
theorem Hr {a c:ak} (h1:aT a b<=0) (h2:aT b c<=0):aT a c<=0:=by
 by_cases e1:aT a b=0
 .have:=Jt e1
  unfold aT at *
  rw [this]
  exact h2
 .by_cases e2:aT b c=0
  .have:=Jt e2
   unfold aT at *
   rw [<- this]
   exact h1
  .have h3:aT a b < 0:=by omega
   have h4:aT b c < 0:=by omega
   exact Int.le_of_lt (zoE h3 h4)
def ie (l:aW) (a b:Nat):Prop:=∀ k,a < k->k < b->aT (l.getD (k - 1) ab) (l.getD k ab)<=0
def HL (l l':aW) (a b:Nat):Prop:=∀ k,k < a\/b<=k->l'.getD k ab=l.getD k ab
def SG (l:aW) (a i j:Nat):Prop:=(∀ k,a < k->k<=i->k≠j->aT (l.getD (k - 1) ab) (l.getD k ab)<=0)/\(a < j->j < i->aT (l.getD (j - 1) ab) (l.getD (j+1) ab)<=0)
theorem zsg (h:ie l a i):SG l a i i:=⟨λk h1 h2 h3=>h k h1 (by omega),λ_ h=>by omega⟩
theorem zqb (h:SG l a i j) (hj:j<=i) (he:a < j->aT (l.getD (j - 1) ab) (l.getD j ab)<=0):ie l a (i+1):=by
 intro k h1 h2
 by_cases hkj:k=j
 .subst hkj
  exact he h1
 .exact h.1 k h1 (by omega) hkj
theorem zvI (h:SG l a i j) (Ya:a < j) (j6:j<=i) (hi:i < l.length) (aP:aT (l.getD j ab) (l.getD (j - 1) ab) < 0):SG (lh l j (j - 1)) a i (j - 1):=by
 have g:=λk=>Ev (l:=l) (i:=j) (j:=j - 1) (by omega) (by omega) k
 refine ⟨λk h1 h2 h3=>?_,λh1 h2=>?_⟩
 .rw [g,g]
  by_cases e1:k=j
  .subst e1
   rw [aE rfl,az (by omega),aE rfl]
   omega
  .by_cases e2:k=j+1
   .subst e2
    rw [az (by omega),aE (by omega),az (by omega),az (by omega)]
    have:=h.2 Ya (by omega)
    exact this
   .rw [az (by omega),az (by omega),az (by omega),az (by omega)]
    exact h.1 k h1 h2 (by omega)
 .rw [g,g]
  rw [az (by omega),az (by omega),az (by omega),aE (by omega)]
  exact h.1 (j - 1) h1 (by omega) (by omega)
theorem zp8 (h:HL l l1 a (i+1)) (Ya:a < j) (j6:j<=i) (hi:i < l1.length):HL l (lh l1 j (j - 1)) a (i+1):=by
 intro k hk
 rw [Ev (by omega) (by omega),az (by omega),az (by omega)]
 exact h k hk
theorem Eo (h:∀ x∈l,x.aV=true) (p:l1.Perm l):∀ x∈l1,x.aV=true:=λx hx=>h x (p.mem_iff.1 hx)
theorem qH (h:∀ x∈l,x.aV=true) (hk:k < l.length):(l.getD k ab).aV=true:=h _ (ig (jf hk))
def ED (l l':aW) (a b n:Nat):Prop:=∀ k,l'.getD k ab=if a<=k/\k < a+n then l.getD (k - a+b) ab else if b<=k/\k < b+n then l.getD (k - b+a) ab else l.getD k ab
theorem zss (l:aW) (a b:Nat):ED l l a b 0:=by
 intro k
 rw [az (by omega),az (by omega)]
theorem zsr {b n:Nat} (h:ED l l1 a b i) (hd:a+n<=b) (hi:i < n) (hb:b+n<=l1.length):ED l (lh l1 (a+i) (b+i)) a b (i+1):=by
 intro k
 rw [Ev (by omega) (by omega),h,h,h]
 repeat' split
 all_goals first|rfl|(exfalso;omega)|(congr 1;omega)
def H9 (t cur:aW) (m i j:Nat):Prop:=∀ k,t.getD k ab=if m - i<=k/\k < m+j then (if k < m - i+j then cur.getD (k+i) ab else cur.getD (k - j) ab) else cur.getD k ab
theorem zv5 (h:H9 t cur m i j) (vB:i<=m) (dF:j < i) (hs:ED cur new (m - i) m j):H9 t new m (i - j) j:=by
 intro k
 rw [h k,hs k,hs (k+(i - j)),hs (k - j)]
 repeat' split
 all_goals first|rfl|(exfalso;omega)|(congr 1;omega)
theorem zsB (h:H9 t cur m i j) (vB:i<=m) (dF:i < j) (hs:ED cur new (m - i) (m+j - i) i):H9 t new m i (j - i):=by
 intro k
 rw [h k,hs k,hs (k+i),hs (k - (j - i))]
 repeat' split
 all_goals first|rfl|(exfalso;omega)|(congr 1;omega)
theorem zy6 (h:H9 t cur m i i) (vB:i<=m) (hs:ED cur new (m - i) m i):∀ k,t.getD k ab=new.getD k ab:=by
 intro k
 rw [h k,hs k]
 repeat' split
 all_goals first|rfl|(exfalso;omega)|(congr 1;omega)
theorem zmJ {m:aW} (hl:l.length=m.length) (h:∀ k,l.getD k ab=m.getD k ab):l=m:=by
 apply List.ext_getElem hl
 intro k h1 h2
 have:=h k
 rw [kK,kK,gI h1,gI h2] at this
 exact this
def AN (l:aW) (a m b:Nat):aW:=(List.range l.length).map λk=>if a<=k/\k < b then (if k < a+(b - m) then l.getD (k+(m - a)) ab else l.getD (k - (b - m)) ab) else l.getD k ab
theorem ziy (l:aW) (a m b:Nat):(AN l a m b).length=l.length:=by unfold AN;rw [fV,List.length_range]
theorem zta (h:l.length<=k):l.getD k ab=ab:=by
 rw [kK,H5 h]
 rfl
theorem UB {b:Nat} (hb:b<=l.length) (k:Nat):(AN l a m b).getD k ab=if a<=k/\k < b then (if k < a+(b - m) then l.getD (k+(m - a)) ab else l.getD (k - (b - m)) ab) else l.getD k ab:=by
 by_cases hk:k < l.length
 .rw [kK]
  unfold AN
  rw [lB,List.getElem?_range hk]
  rfl
 .rw [zta (by rw [ziy];omega),az (by omega),zta (by omega)]
theorem zsC {b:Nat} (BB:a<=m) (BU:m<=b) (hb:b<=l.length):H9 (AN l a m b) l m (m - a) (b - m):=by
 intro k
 rw [UB hb]
 repeat' split
 all_goals first|rfl|(exfalso;omega)|(congr 1;omega)
def eY (l l':aW):Prop:=∀ t:List UInt8,l'.filter (λx=>cF x == t)=l.filter (λx=>cF x == t)
theorem eY.refl (l:aW):eY l l:=λ_=>rfl
theorem eY.trans {l l1 l2:aW} (x:eY l l1) (y:eY l1 l2):eY l l2:=λt=>(y t).trans (x t)
theorem Jw {a:ak} (h:aT a b < 0):cF a≠cF b:=by
 intro e
 unfold aT at h
 rw [e,RA] at h
 omega
theorem zkd:∀ {l:aW} {k:Nat},k+1 < l.length->cF (l.getD k ab)≠cF (l.getD (k+1) ab)->eY l (lh l k (k+1))
 | [],k,hk,_=>by simp at hk
 | [x],k,hk,_=>by simp at hk
 |x::y::r,0,_,ba=>by
  intro t
  have e:lh (x::y::r) 0 1=y::x::r:=rfl
  rw [e]
  have Y2:cF x≠cF y:=ba
  by_cases hx:cF x=t
  .have hy:¬ cF y=t:=λh=>Y2 (hx.trans h.symm)
   simp [ER,hx,hy]
  .simp [ER,hx]
 |x::y::r,k+1,hk,ba=>by
  intro t
  have e:lh (x::y::r) (k+1) (k+1+1)=x::lh (y::r) k (k+1):=rfl
  rw [e,ER,ER,zkd (l:=y::r) (k:=k) (by simpa using hk) ba t]
theorem zvN (hi:i < l.length) (hj:j < l.length):lh l i j=lh l j i:=by
 refine zmJ (by rw [zix,zix]) (λk=>?_)
 rw [Ev hi hj,Ev hj hi]
 repeat' split
 all_goals first|rfl|(subst_vars;rfl)
theorem zqi (h0:0 < j) (hj:j < l.length) (aP:aT (l.getD j ab) (l.getD (j - 1) ab) < 0):eY l (lh l j (j - 1)):=by
 rw [zvN hj (by omega)]
 have:=zkd (l:=l) (k:=j - 1) (by omega) (by rw [show j - 1+1=j by omega];exact λe=>Jw aP e.symm)
 rwa [show j - 1+1=j by omega] at this
theorem zDb (hk:k+1 < l.length) (aP:aT (l.getD (k+1) ab) (l.getD k ab) < 0):eY l (lh l k (k+1)):=zkd hk (λe=>Jw aP e.symm)
end Go.Am
namespace Go.Am
variable {a b c e i j k m mid r s:Nat} {l l' l1:aW}
theorem Jr (a:ak):aT a a=0:=RA _
theorem zhE {a b c:ak} (h1:aT a b<=0) (h2:aT b c < 0):aT a c < 0:=by
 by_cases h:aT a c < 0
 .exact h
 .have h3:=Hr (JB h) h1
  have h4:=wS b c
  omega
theorem Rh {a b c:ak} (h1:aT a b < 0) (h2:aT b c<=0):aT a c < 0:=by
 by_cases h:aT a c < 0
 .exact h
 .have h3:=Hr h2 (JB h)
  have h4:=wS a b
  omega
theorem zj (h:ie l a b) (hi:a<=i) (dF:i<=j) (hj:j < b):aT (l.getD i ab) (l.getD j ab)<=0:=by
 induction j with
 |zero =>
  have:i=0:=by omega
  subst this
  rw [Jr]
  exact Int.le_refl _
 |succ j ih =>
  by_cases e:i=j+1
  .subst e
   rw [Jr]
   exact Int.le_refl _
  .exact Hr (ih (by omega) (by omega)) (h (j+1) (by omega) hj)
structure Mv (l l':aW) (a b:Nat):Prop where
 perm:l'.Perm l
 out:HL l l' a b
 O3:∀ i,a<=i->i < b->∃ j,a<=j/\j < b/\l'.getD i ab=l.getD j ab
 zd:eY l l'
theorem Mv.refl (l:aW) (a b:Nat):Mv l l a b:=⟨List.Perm.refl _,λ_ _=>rfl,λi h1 h2=>⟨i,h1,h2,rfl⟩,eY.refl l⟩
theorem Mv.trans {l l1 l2:aW} {a b:Nat} (x:Mv l l1 a b) (y:Mv l1 l2 a b):Mv l l2 a b:=⟨y.perm.trans x.perm,λk hk=>(y.out k hk).trans (x.out k hk),λi h1 h2=>by
 obtain ⟨j,g1,g2,g3⟩:=y.O3 i h1 h2
 obtain ⟨k,f1,f2,f3⟩:=x.O3 j g1 g2
 exact ⟨k,f1,f2,g3.trans f3⟩,x.zd.trans y.zd⟩
theorem Mv.zg {a' b':Nat} (x:Mv l l' a b) (ha:a'<=a) (hb:b<=b'):Mv l l' a' b':=⟨x.perm,λk hk=>x.out k (by omega),λi h1 h2=>by
 by_cases h:a<=i/\i < b
 .obtain ⟨j,g1,g2,g3⟩:=x.O3 i h.1 h.2
  exact ⟨j,by omega,by omega,g3⟩
 .exact ⟨i,h1,h2,x.out i (by omega)⟩,x.zd⟩
theorem Mv.swap (hi:a<=i/\i < b) (hj:a<=j/\j < b) (hb:b<=l.length) (hs:eY l (lh l i j)):Mv l (lh l i j) a b:=by
 have g:=λk=>Ev (l:=l) (i:=i) (j:=j) (by omega) (by omega) k
 refine ⟨zh0 (by omega) (by omega),λk hk=>?_,λk h1 h2=>?_,hs⟩
 .rw [g,az (by omega),az (by omega)]
 .rw [g]
  split
  .exact ⟨i,by omega,by omega,rfl⟩
  .split
   .exact ⟨j,by omega,by omega,rfl⟩
   .exact ⟨k,h1,h2,rfl⟩
def EV (l l1:aW) (s m e:Nat):Prop:=∀ k,l1.getD k ab=if s<=k/\k < e then (if k < s+(e - m) then l.getD (k+(m - s)) ab else l.getD (k - (e - m)) ab) else l.getD k ab
theorem zA6 (hs:s<=m) (he:m<=e) (h:s=m\/m=e):EV l l s m e:=by
 intro k
 repeat' split
 all_goals first|rfl|(exfalso;omega)|(congr 1;omega)
theorem zA5 (h:EV l l1 s m e) (hs:s<=m) (he:m<=e) (hp:l1.Perm l) (eZ:eY l l1):Mv l l1 s e:=by
 refine ⟨hp,λk hk=>?_,λk h1 h2=>?_,eZ⟩
 .rw [h,az (by omega)]
 .rw [h,aE ⟨h1,h2⟩]
  split
  .exact ⟨k+(m - s),by omega,by omega,rfl⟩
  .exact ⟨k - (e - m),by omega,by omega,rfl⟩
theorem zCB (h2:ie l (a+1) b) (hmi:a+1<=i) (Ts:i<=b) (hl:i=a+1\/aT (l.getD (i - 1) ab) (l.getD a ab) < 0) (hr:i=b\/¬ aT (l.getD i ab) (l.getD a ab) < 0)
 (Ob:∀ x,l'.getD x ab=if a<=x/\x < i - 1 then l.getD (x+1) ab else if x=i - 1 then l.getD a ab else l.getD x ab):ie l' a b:=by
 intro p h1 h3
 rw [Ob,Ob]
 by_cases c1:p < i - 1
 .rw [aE (by omega),aE (by omega)]
  have:=h2 (p+1) (by omega) (by omega)
  rw [C7] at this
  rw [show p - 1+1=p by omega]
  exact this
 .by_cases c2:p=i - 1
  .subst c2
   rw [aE (by omega),az (by omega),aE rfl,show i - 1 - 1+1=i - 1 by omega]
   rcases hl with hl|hl
   .omega
   .exact Int.le_of_lt hl
  .by_cases c3:p=i
   .subst c3
    rw [az (by omega),aE rfl,az (by omega),az (by omega)]
    rcases hr with hr|hr
    .omega
    .exact JB hr
   .rw [az (by omega),az (by omega),az (by omega),az (by omega)]
    exact h2 p (by omega) h3
theorem zzO (h1:ie l a m) (Tl:a<=i) (vB:i<=m) (hl:i=a\/¬ aT (l.getD m ab) (l.getD (i - 1) ab) < 0) (hr:i=m\/aT (l.getD m ab) (l.getD i ab) < 0)
 (Ob:∀ x,l'.getD x ab=if x=i then l.getD m ab else if i < x/\x<=m then l.getD (x - 1) ab else l.getD x ab):ie l' a (m+1):=by
 intro p h2 h3
 rw [Ob,Ob]
 by_cases c1:p < i
 .rw [az (by omega),az (by omega),az (by omega),az (by omega)]
  exact h1 p h2 (by omega)
 .by_cases c2:p=i
  .subst c2
   rw [az (by omega),az (by omega),aE rfl]
   rcases hl with hl|hl
   .omega
   .exact JB hl
  .by_cases c3:p=i+1
   .subst c3
    rw [aE (by omega),az (by omega),aE (by omega),C7]
    rcases hr with hr|hr
    .omega
    .exact Int.le_of_lt hr
   .rw [az (by omega),aE (by omega),az (by omega),aE (by omega)]
    exact h1 (p - 1) (by omega) (by omega)
structure pz (l:aW) (a m b mid s:Nat):Prop where
 lo:a<=s
 hi:s<=m
 vB:s<=mid
 ge:m<=mid+m - s
 le:mid+m - s<=b
 cl:s=a\/mid+m - s=b\/aT (l.getD (s - 1) ab) (l.getD (mid+m - s) ab)<=0
 cr:s=m\/s=mid\/aT (l.getD (mid+m - 1 - s) ab) (l.getD s ab) < 0
theorem zsl (h1:ie l a m) (h2:ie l m b) (p:pz l a m b mid s) (t:EV l l1 s m (mid+m - s)) :
 ie l1 a s/\ie l1 s mid/\ie l1 mid (mid+m - s)/\ie l1 (mid+m - s) b:=by
 obtain ⟨lo,hi,vB,ge,le,cl,cr⟩:=p
 refine ⟨λk g1 g2=>?_,λk g1 g2=>?_,λk g1 g2=>?_,λk g1 g2=>?_⟩
 .rw [t,t,az (by omega),az (by omega)]
  exact h1 k g1 (by omega)
 .rw [t,t,aE (by omega),aE (by omega),aE (by omega),aE (by omega),show k - 1+(m - s)=k+(m - s) - 1 by omega]
  exact h2 _ (by omega) (by omega)
 .rw [t,t,aE (by omega),az (by omega),aE (by omega),az (by omega),show k - 1 - (mid+m - s - m)=k - (mid+m - s - m) - 1 by omega]
  exact h1 _ (by omega) (by omega)
 .rw [t,t,az (by omega),az (by omega)]
  exact h2 k (by omega) g2
theorem zsk (h1:ie l a m) (h2:ie l m b) (p:pz l a m b mid s) (t:EV l l1 s m (mid+m - s)) (hi:a<=i) (vB:i < mid) (hj:mid<=j) (hjb:j < b) :
 aT (l1.getD i ab) (l1.getD j ab)<=0:=by
 obtain ⟨lo,wI,an8,ge,le,cl,cr⟩:=p
 rw [t,t]
 by_cases c1:s<=i
 .-- from behind m
  rw [aE (by omega),aE (by omega)]
  by_cases c2:j < mid+m - s
  .rw [aE (by omega),az (by omega)]
   rcases cr with cr|cr|cr
   .omega
   .omega
   .exact Hr (zj h2 (i:=i+(m - s)) (j:=mid+m - 1 - s) (by omega) (by omega) (by omega)) (Hr (Int.le_of_lt cr) (zj h1 (i:=s) (by omega) (by omega) (by omega)))
  .rw [az (by omega)]
   exact zj h2 (by omega) (by omega) hjb
 .rw [az (by omega)]
  by_cases c2:j < mid+m - s
  .rw [aE (by omega),az (by omega)]
   exact zj h1 hi (by omega) (by omega)
  .rw [az (by omega)]
   rcases cl with cl|cl|cl
   .omega
   .omega
   .exact Hr (zj h1 (i:=i) (j:=s - 1) hi (by omega) (by omega)) (Hr cl (zj h2 (i:=mid+m - s) (by omega) (by omega) hjb))
theorem zps {l2 l3:aW} (hc:∀ i j,a<=i->i < mid->mid<=j->j < b->aT (l1.getD i ab) (l1.getD j ab)<=0) (x:Mv l1 l2 a mid) (y:Mv l2 l3 mid b) (h2:ie l2 a mid) (h3:ie l3 mid b):ie l3 a b:=by
 intro p h4 h5
 by_cases c1:p < mid
 .rw [y.out _ (.inl (by omega)),y.out _ (.inl c1)]
  exact h2 p h4 c1
 .by_cases c2:p=mid
  .subst c2
   obtain ⟨j,g1,g2,g3⟩:=y.O3 p (by omega) h5
   obtain ⟨i,f1,f2,f3⟩:=x.O3 (p - 1) (by omega) (by omega)
   rw [y.out _ (.inl (by omega)),g3,x.out j (.inr (by omega)),f3]
   exact hc i j f1 f2 g1 g2
  .exact h3 p (by omega) h5
def xp (l l1:aW) (a k:Nat):Prop:=∀ x,l1.getD x ab=if a<=x/\x < k then l.getD (x+1) ab else if x=k then l.getD a ab else l.getD x ab
theorem zv8 (l:aW) (a:Nat):xp l l a a:=by
 intro x
 repeat' split
 all_goals first|rfl|(exfalso;omega)|(congr 1;done)|(subst x;rfl)
theorem zy9 (h:xp l l1 a k) (hak:a<=k) (hk:k+1 < l1.length):xp l (lh l1 k (k+1)) a (k+1):=by
 intro x
 rw [Ev (by omega) (by omega),h x,h k,h (k+1)]
 repeat' split
 all_goals first|rfl|(exfalso;omega)|(congr 1;omega)
def Sk (l l1:aW) (m k:Nat):Prop:=∀ x,l1.getD x ab=if x=k then l.getD m ab else if k < x/\x<=m then l.getD (x - 1) ab else l.getD x ab
theorem zoN (l:aW) (m:Nat):Sk l l m m:=by
 intro x
 repeat' split
 all_goals first|rfl|(exfalso;omega)|(subst x;rfl)
theorem zrm (h:Sk l l1 m k) (uB:0 < k) (hkm:k<=m) (hm:m < l1.length):Sk l (lh l1 k (k - 1)) m (k - 1):=by
 intro x
 rw [Ev (by omega) (by omega),h x,h k,h (k - 1)]
 repeat' split
 all_goals first|rfl|(exfalso;omega)|(congr 1;omega)
structure iw (l:aW) (a m b mid s r:Nat):Prop where
 sr:s<=r
 IX:m<=mid->a<=s/\r<=m
 IY:mid < m->mid+m - b<=s/\r<=mid
 cl:(s=a/\m<=mid)\/(mid < m/\s=mid+m - b)\/aT (l.getD (s - 1) ab) (l.getD (mid+m - s) ab)<=0
 cr:(r=m/\m<=mid)\/(mid < m/\r=mid)\/aT (l.getD (mid+m - 1 - r) ab) (l.getD r ab) < 0
theorem zAX (BB:a < m) (h:m<=mid):iw l a m b mid a m:=⟨by omega,λ_=>by omega,λ_=>by omega,.inl ⟨rfl,h⟩,.inl ⟨rfl,h⟩⟩
theorem zAY (BU:m < b) (h:mid < m):iw l a m b mid (mid+m - b) mid:=⟨by omega,λ_=>by omega,λ_=>by omega,.inr (.inl ⟨h,rfl⟩),.inr (.inl ⟨h,rfl⟩)⟩
theorem zyQ (h:iw l a m b mid s r) (h1:s<=c) (h2:c < r) (hc:¬ aT (l.getD (mid+m - 1 - c) ab) (l.getD c ab) < 0):iw l a m b mid (c+1) r:=by
 refine ⟨by omega,λg=>?_,λg=>?_,.inr (.inr ?_),h.cr⟩
 .have:=h.IX g;omega
 .have:=h.IY g;omega
 .rw [C7,show mid+m - (c+1)=mid+m - 1 - c by omega]
  exact JB hc
theorem zst (h:iw l a m b mid s r) (h1:s<=c) (h2:c < r) (hc:aT (l.getD (mid+m - 1 - c) ab) (l.getD c ab) < 0):iw l a m b mid s c:=by
 refine ⟨h1,λg=>?_,λg=>?_,h.cl,.inr (.inr hc)⟩
 .have:=h.IX g;omega
 .have:=h.IY g;omega
theorem zlW (h:iw l a m b mid s s) (BB:a < m) (BU:m < b) (i0:2*mid<=a+b) (kr:a+b<=2*mid+1):pz l a m b mid s:=by
 obtain ⟨sr,IX,IY,cl,cr⟩:=h
 rcases mq mid m with g|g
 .obtain ⟨f1,f2⟩:=IY g
  refine ⟨by omega,by omega,f2,by omega,by omega,?_,?_⟩
  .rcases cl with ⟨e,_⟩|⟨_,e⟩|e
   .exact .inl e
   .exact .inr (.inl (by omega))
   .exact .inr (.inr e)
  .rcases cr with ⟨e,_⟩|⟨_,e⟩|e
   .exact .inl e
   .exact .inr (.inl e)
   .exact .inr (.inr e)
 .obtain ⟨f1,f2⟩:=IX g
  refine ⟨f1,f2,by omega,by omega,by omega,?_,?_⟩
  .rcases cl with ⟨e,_⟩|⟨_,e⟩|e
   .exact .inl e
   .exact .inr (.inl (by omega))
   .exact .inr (.inr e)
  .rcases cr with ⟨e,_⟩|⟨_,e⟩|e
   .exact .inl e
   .exact .inr (.inl e)
   .exact .inr (.inr e)
theorem zyP (h:iw l a m b mid s r) (h1:s<=c) (h2:c < r) (BB:a < m) (BU:m < b) (i0:2*mid<=a+b) (kr:a+b<=2*mid+1):c+1<=m/\m<=mid+m - 1 - c/\mid+m - 1 - c < b/\c+1<=mid+m:=by
 rcases mq mid m with g|g
 .obtain ⟨f1,f2⟩:=h.IY g
  omega
 .obtain ⟨f1,f2⟩:=h.IX g
  omega
theorem Ug (h:ie l a b) (he:∀ k,a<=k->k < b->l'.getD k ab=l.getD k ab):ie l' a b:=by
 intro k h1 h2
 rw [he k (by omega) h2,he (k - 1) (by omega) (by omega)]
 exact h k h1 h2
theorem zAx (hs:s<=m) (he:m<=e) (hl:e<=l.length):l=l.take s++((l.take m).drop s++((l.take e).drop m++l.drop e)):=by
 apply r8
 intro k
 simp only [xj,fj,lk,lX,lA]
 repeat' split
 all_goals first|rfl|(exfalso;omega)|(congr 1;omega)
theorem zDk (t:EV l l1 s m e) (hs:s<=m) (he:m<=e) (hl:e<=l.length) (hlen:l1.length=l.length):l1=l.take s++((l.take e).drop m++((l.take m).drop s++l.drop e)):=by
 refine zmJ (by simp only [cW,fj,lk];omega) (λk=>?_)
 rw [t k]
 simp only [kK,xj,fj,lk,lX,lA]
 repeat' split
 all_goals first|rfl|(exfalso;omega)|(congr 2;omega)
theorem zy5 (t:EV l l1 s m e) (hs:s<=m) (he:m<=e) (hl:e<=l.length) (hlen:l1.length=l.length) (ba:∀ i j,s<=i->i < m->m<=j->j < e->cF (l.getD i ab)≠cF (l.getD j ab)):eY l l1:=by
 intro x
 rw [zDk t hs he hl hlen]
 conv=>rhs;rw [zAx hs he hl]
 simp only [zL]
 by_cases hu:((l.take m).drop s).filter (λy=>cF y == x)=[]
 .rw [hu]
  simp
 .have hv:((l.take e).drop m).filter (λy=>cF y == x)=[]:=by
   rw [RH]
   intro y hy yW
   apply hu
   rw [RH]
   intro z hz hzx
   obtain ⟨j,hj⟩:=AP hy
   obtain ⟨i,hi⟩:=AP hz
   rw [lA,lX] at hj hi
   split at hj
   .split at hi
    .rename_i g1 g2
     refine ba (s+i) (m+j) (by omega) g2 (by omega) g1 ?_
     rw [kK,kK,hj,hi]
     simp only [J3]
     rw [beq_iff_eq] at yW hzx
     rw [yW,hzx]
    .cases hi
   .cases hj
  rw [hv]
  simp
theorem zvL (h1:ie l a m) (h2:ie l m b) (p:pz l a m b mid s) (t:EV l l1 s m (mid+m - s)) (hb:b<=l.length) (hlen:l1.length=l.length):eY l l1:=by
 obtain ⟨lo,hi,vB,ge,le,cl,cr⟩:=p
 refine zy5 t hi ge (by omega) hlen (λi j g1 g2 g3 g4 e=>?_)
 rcases cr with cr|cr|cr
 .omega
 .omega
 .have f1:=zj h2 (i:=j) (j:=mid+m - 1 - s) g3 (by omega) (by omega)
  have f2:=zj h1 (i:=s) (j:=i) lo g1 g2
  exact Jw (Rh (zhE f1 cr) f2) e.symm
theorem zza (h2:ie l (a+1) b) (Ts:i<=b) (hl:i=a+1\/aT (l.getD (i - 1) ab) (l.getD a ab) < 0) (hak:a<=k) (hk:k < i - 1) (u:xp l l1 a k):aT (l1.getD (k+1) ab) (l1.getD k ab) < 0:=by
 rw [u,u,az (by omega),az (by omega),az (by omega),aE rfl]
 rcases hl with hl|hl
 .omega
 .exact zhE (zj h2 (i:=k+1) (j:=i - 1) (by omega) (by omega) (by omega)) hl
theorem zrn (h1:ie l a m) (Tl:a<=i) (hr:i=m\/aT (l.getD m ab) (l.getD i ab) < 0) (ry:i < k) (hkm:k<=m) (u:Sk l l1 m k):aT (l1.getD k ab) (l1.getD (k - 1) ab) < 0:=by
 rw [u,u,aE rfl,az (by omega),az (by omega)]
 rcases hr with hr|hr
 .omega
 .exact Rh hr (zj h1 (i:=i) (j:=k - 1) Tl (by omega) (by omega))
end Go.Am
namespace Go.Am
variable {a n w:Nat} {l:aW}
theorem UW {P:Program} {T:bL} {t:TypeId} {k:IntKind} {a b:Int}:bY P T .mul t (.int k a) (.int k b)=some (.int k (k.wrap (a*b))):=by
 have h1:((T.desc t).bind λd=>EU d (.int k a) (.int k b))=none:=by
  cases T.desc t with
  |none=>rfl
  |some d=>cases d <;> rfl
 have h2:gT P (binOp .mul t (.int k a) (.int k b))=some (.int k (k.wrap (a*b))):=by
  simp [binOp,Op.intArith,AE]
 unfold bY
 have hf:sL .mul (.int k a) (.int k b)=none:=rfl
 rw [hf]
 simp [h1,h2]
 exact ⟨⟨rfl,rfl⟩,rfl⟩
theorem zrO {s:Nat} (h1:s % w=0) (h2:a % w=0) (h:s < a):s+w<=a:=by
 obtain ⟨i,rfl⟩:=Nat.dvd_of_mod_eq_zero h1
 obtain ⟨j,rfl⟩:=Nat.dvd_of_mod_eq_zero h2
 have dF:i < j:=Nat.lt_of_mul_lt_mul_left h
 rw [show w*i+w=w*(i+1) from (Nat.mul_succ w i).symm]
 exact Nat.mul_le_mul_left w dF
def Bl (l:aW) (w n a:Nat):Prop:=∀ s,s % w=0->s < a->ie l s (min (s+w) n)
theorem zq5 {l':aW} (h:Bl l w n a) (ha:a % w=0) (hs:ie l' a (min (a+w) n)) (ho:HL l l' a (min (a+w) n)) (b:Nat) (hb:b<=a+w):Bl l' w n b:=by
 intro s h1 h2
 rcases R5 s a with g|g|g
 .have:=zrO h1 ha g
  exact Ug (h s h1 g) (λk _ _=>ho k (.inl (by omega)))
 .subst g
  exact hs
 .have:=zrO ha h1 g
  omega
theorem zDK (h:Bl l w n n) (hw:n<=w):ie l 0 n:=by
 intro k h1 h2
 exact h 0 (Nat.zero_mod _) (by omega) k h1 (by omega)
structure E1 (l:aW) (w n a:Nat):Prop where
 lo:Bl l (2*w) n a
 hi:∀ s,s % w=0->a<=s->s < n->ie l s (min (s+w) n)
theorem zw0 (h:Bl l w n n):E1 l w n 0:=⟨λs _ g=>absurd g (by omega),λs h1 _ h2=>h s h1 h2⟩
theorem zxK (h:a % (2*w)=0):a % w=0/\(a+w) % w=0:=by
 obtain ⟨i,rfl⟩:=Nat.dvd_of_mod_eq_zero h
 have h1:2*w*i % w=0:=by rw [show 2*w*i=w*(2*i) by rw [zQ 2 w,Nat.mul_assoc]];exact Nat.mul_mod_right _ _
 exact ⟨h1,by rw [Nat.add_mod_right];exact h1⟩
theorem zoH (h:E1 l w n a) (hw:0 < w) (ha:a % (2*w)=0) (hn:a+w < n):ie l a (a+w)/\ie l (a+w) (min (a+2*w) n):=by
 have:=zxK ha
 have g1:=h.hi a this.1 (by omega) (by omega)
 have g2:=h.hi (a+w) this.2 (by omega) hn
 rw [show min (a+w) n=a+w by omega] at g1
 rw [show min (a+w+w) n=min (a+2*w) n by omega] at g2
 exact ⟨g1,g2⟩
theorem zs1 {l':aW} (h:E1 l w n a) (hw:0 < w) (ha:a % (2*w)=0) (hs:ie l' a (min (a+2*w) n)) (hm:Mv l l' a (min (a+2*w) n)):E1 l' w n (min (a+2*w) n):=by
 refine ⟨zq5 h.lo ha hs hm.out _ (by omega),λs h1 h2 h3=>?_⟩
 exact Ug (h.hi s h1 (by omega) h3) (λk _ _=>hm.out k (.inr (by omega)))
theorem zCl (h:E1 l w n a) (hw:0 < w) (ha:a % (2*w)=0) (hn:n<=a+w):Bl l (2*w) n n:=by
 intro s h1 h2
 rcases R5 s a with g|g|g
 .exact h.lo s h1 g
 .subst g
  have:=h.hi s (zxK ha).1 (by omega) h2
  rw [show min (s+w) n=min (s+2*w) n by omega] at this
  exact this
 .have:=zrO ha h1 g
  omega
theorem zCk (h:E1 l w n a) (hn:n<=a):Bl l (2*w) n n:=λs h1 h2=>h.lo s h1 (by omega)
end Go.Am
