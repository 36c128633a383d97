/- Strings in order, and the texts of atoms: plain facts about lists of bytes. No condition. -/
import Derived.Lib.Bytealg
import Derived.Test.YtnkmeidmdaidhaaGreatDoorG16
set_option linter.unusedSimpArgs false
set_option linter.unusedVariables false
namespace Go.Am
open Go.Lib
abbrev Bs:=List UInt8
theorem ZO (a:UInt8):¬ a < a:=by rw [UInt8.lt_iff_toNat_lt];omega
theorem zxD {a b:UInt8} (h1:¬ a < b) (h2:¬ b < a):a=b:=by
 rw [UInt8.lt_iff_toNat_lt] at h1 h2
 exact UInt8.toNat_inj.1 (by omega)
theorem ME:∀ a:Bs,compareBytes a a=0
 | []=>rfl
 |a::al=>by rw [compareBytes,aA (ZO a),aA (ZO a)];exact ME al
theorem MF:∀ {a b:Bs},compareBytes a b=0->a=b
 | [],[],_=>rfl
 | [],_::_,h=>by simp [compareBytes] at h
 |_::_,[],h=>by simp [compareBytes] at h
 |a::al,b::bs,h=>by
  rw [compareBytes] at h
  split at h
  .simp at h
  .rename_i h1
   split at h
   .simp at h
   .rename_i h2
    rw [zxD h1 h2,MF h]
theorem zqM:∀ a b:Bs,compareBytes a b = - compareBytes b a
 | [],[]=>rfl
 | [],_::_=>rfl
 |_::_,[]=>rfl
 |a::al,b::bs=>by
  rw [compareBytes,compareBytes]
  by_cases h1:a < b
  .have h2:¬ b < a:=by rw [UInt8.lt_iff_toNat_lt] at h1 ⊢;omega
   rw [aG h1,aA h2,aG h1]
  .rw [aA h1]
   by_cases h2:b < a
   .rw [aG h2,aG h2];rfl
   .rw [aA h2,aA h2,aA h1];exact zqM al bs
theorem zm8:∀ {a b c:Bs},compareBytes a b < 0->compareBytes b c < 0->compareBytes a c < 0
 | [],[],_,h,_=>by simp [compareBytes] at h
 | [],_::_,[],_,h=>by simp [compareBytes] at h
 | [],_::_,_::_,_,_=>by simp [compareBytes]
 |_::_,[],_,h,_=>by simp [compareBytes] at h
 |_::_,_::_,[],_,h=>by simp [compareBytes] at h
 |a::al,b::bs,c::cs,h,k=>by
  rw [compareBytes] at h k ⊢
  simp only [UInt8.lt_iff_toNat_lt] at h k ⊢
  by_cases h1:a.toNat < b.toNat
  .by_cases h2:b.toNat < c.toNat
   .rw [aG (by omega)];decide
   .rw [aA h2] at k
    split at k
    .simp at k
    .rw [aG (by omega)];decide
  .rw [aA h1] at h
   split at h
   .simp at h
   .by_cases h2:b.toNat < c.toNat
    .rw [aG (by omega)];decide
    .rw [aA h2] at k
     split at k
     .simp at k
     .rw [aA (by omega),aA (by omega)]
      exact zm8 h k

def nq (c:UInt8):Prop:=c.toNat≠32/\c.toNat≠40/\c.toNat≠41/\c.toNat≠44
def Word (s:Bs):Prop:=∀ c∈s,nq c
theorem CI:∀ {s t x y:Bs} {c d:UInt8},Word s->Word t->¬ nq c->¬ nq d->s++c::x=t++d::y->s=t/\c=d/\x=y
 | [],[],x,y,c,d,_,_,_,_,h=>by simp at h;exact ⟨rfl,h.1,h.2⟩
 | [],b::t,x,y,c,d,_,ht,hc,_,h=>by
  simp at h
  exact (hc (by rw [h.1];exact ht b (by simp))).elim
 |a::s,[],x,y,c,d,hs,_,_,hd,h=>by
  simp at h
  exact (hd (by rw [<- h.1];exact hs a (by simp))).elim
 |a::s,b::t,x,y,c,d,hs,ht,hc,hd,h=>by
  simp at h
  obtain ⟨h1,h2,h3⟩:=CI (λq hq=>hs q (by simp [hq])) (λq hq=>ht q (by simp [hq])) hc hd h.2
  exact ⟨by rw [h.1,h1],h2,h3⟩
theorem Ur:∀ {s t y:Bs} {d:UInt8},Word s->¬ nq d->s≠t++d::y
 | [],t,y,d,_,_,h=>by cases t <;> simp at h
 |a::s,[],y,d,hs,hd,h=>by
  simp at h
  exact hd (by rw [<- h.1];exact hs a (by simp))
 |a::s,b::t,y,d,hs,hd,h=>by
  simp at h
  exact Ur (λq hq=>hs q (by simp [hq])) hd h.2
def Fj (names:List Bs):Bs:=match names with
 | []=>[]
 |n::ns=>40::(join (n::ns) [44,32]++[41])
def Kz (says pred:Bs) (names:List Bs):Bs:=says++[32,115,97,121,115,32]++pred++Fj names
theorem Ma (n m:Bs) (ns:List Bs):join (n::m::ns) [44,32]=n++(44::32::join (m::ns) [44,32]):=by
 simp [join,List.intercalate]
theorem zq3:∀ {l m:List Bs},(∀ n∈l,Word n)->(∀ n∈m,Word n)->l≠[]->m≠[]->join l [44,32]++[41]=join m [44,32]++[41]->l=m
 | [],_,_,_,h,_,_=>(h rfl).elim
 |_::_,[],_,_,_,h,_=>(h rfl).elim
 | [a],[b],ha,hb,_,_,h=>by
  rw [join_one,join_one] at h
  rw [(CI (ha a (by simp)) (hb b (by simp)) (by simp [nq]) (by simp [nq]) h).1]
 | [a],b::c::m,ha,hb,_,_,h=>by
  rw [join_one,Ma] at h
  simp only [uX,qG] at h
  have:=(CI (ha a (by simp)) (hb b (by simp)) (by simp [nq]) (by simp [nq]) h).2.1
  simp at this
 |a::c::l,[b],ha,hb,_,_,h=>by
  rw [join_one,Ma] at h
  simp only [uX,qG] at h
  have:=(CI (ha a (by simp)) (hb b (by simp)) (by simp [nq]) (by simp [nq]) h).2.1
  simp at this
 |a::c::l,b::d::m,ha,hb,_,_,h=>by
  rw [Ma,Ma] at h
  simp only [uX,qG] at h
  obtain ⟨h1,_,h3⟩:=CI (ha a (by simp)) (hb b (by simp)) (by simp [nq]) (by simp [nq]) h
  simp only [List.cons.injEq,true_and] at h3
  have:=zq3 (λn hn=>ha n (by simp at hn ⊢;exact .inr hn)) (λn hn=>hb n (by simp at hn ⊢;exact .inr hn)) (by simp) (by simp) h3
  rw [h1,this]
theorem zxz {s s' p p':Bs} {l l':List Bs} (hs:Word s) (jl:Word s') (hp:Word p) (mO:Word p') (hl:∀ n∈l,Word n) (xc:∀ n∈l',Word n) (h:Kz s p l=Kz s' p' l'):s=s'/\p=p'/\l=l':=by
 unfold Kz at h
 simp only [uX,qG,yy] at h
 obtain ⟨h1,_,h2⟩:=CI hs jl (by simp [nq]) (by simp [nq]) h
 simp only [List.cons.injEq,true_and] at h2
 cases l with
 |nil =>
  cases l' with
  |nil=>simp only [Fj,bu] at h2;exact ⟨h1,h2,rfl⟩
  |cons n' ns' =>
   simp only [Fj,bu] at h2
   exact (Ur hp (by simp [nq]) h2).elim
 |cons n ns =>
  cases l' with
  |nil =>
   simp only [Fj,bu] at h2
   exact (Ur mO (by simp [nq]) h2.symm).elim
  |cons n' ns' =>
   simp only [Fj] at h2
   obtain ⟨h3,_,h4⟩:=CI hp mO (by simp [nq]) (by simp [nq]) h2
   exact ⟨h1,h3,zq3 hl xc (by simp) (by simp) h4⟩
end Go.Am
namespace Go.Am
variable {b x:ae} {a i j k m:Nat} {cur l l1 new t:aU}
def bl (l:aU):List ai:=l.flatMap ae.cells
theorem CA (l:aU):(bl l).length=l.length*11:=by
 unfold bl
 induction l with
 |nil=>rfl
 |cons x l ih=>rw [E6,dx,ih,dB];show 11+_=_;omega
theorem zrw (h:l[i]? = some x):cut (bl l) (i*11) 11=some x.cells:=by
 have hi:=(fD.1 h).1
 unfold cut
 rw [aG (by rw [CA];omega)]
 congr 1
 unfold bl
 induction l generalizing i with
 |nil=>simp at h
 |cons y l ih =>
  cases i with
  |zero =>
   simp at h
   subst h
   rfl
  |succ i =>
   rw [E6,show (i+1)*11=y.cells.length+i*11 by show _=11+_;omega,List.drop_append]
   have h2:y.cells.drop (y.cells.length+i*11)=[]:=C8 (by omega)
   rw [h2,yy,My]
   exact ih (by simpa using h) (by simpa using hi)
theorem zxi (hi:i < l.length):aJ (bl l) (i*11) x.cells=bl (l.set i x):=by
 unfold aJ
 have hx:x.cells.length=11:=rfl
 rw [hx]
 unfold bl
 induction l generalizing i with
 |nil=>simp at hi
 |cons y l ih =>
  have hy:y.cells.length=11:=rfl
  cases i with
  |zero =>
   rw [eA,E6,E6,Nat.zero_mul,Ds,yy,ia,List.drop_append,C8 (by omega),hy]
   simp
  |succ i =>
   rw [yo,E6,E6,<- ih (i:=i) (by simpa using hi)]
   rw [show (i+1)*11=y.cells.length+i*11 by omega,List.take_append,iK (by omega),My,show y.cells.length+i*11+11=y.cells.length+(i*11+11) by omega,List.drop_append,C8 (by omega),My]
   simp
theorem xT {T:bx} {t u:TypeId} {A:Nat} {h1:Heap} {bs:List bc} {w:Nat} {K:aL} (q:ak h1 A (.row (bl l) u false)) (hs:de T t=some 11) (hi:i < l.length)
 (hK:∀ h',ak h' A (.row (bl (l.set i x)) u false)->fW A (h1.lay bs w) h'->K undef h'):jM (gN T t (.pointer (some ⟨A,i*11,none⟩)) x.val (h1.lay bs w)) K:=by
 have hg:(h1.lay bs w).get A=some (.row (bl l) u false):=q.lay bs w
 have hA:A < (h1.lay bs w).size:=(q.on bs w).lt
 have he:gN T t (.pointer (some ⟨A,i*11,none⟩)) x.val (h1.lay bs w)=some ((h1.lay bs w).set A (.row (bl (l.set i x)) u false)):=by
  unfold gN
  simp only [hs,dz]
  have h1:x.val.cells.toList=x.cells:=rfl
  have h2:x.val.cells.size=11:=rfl
  have h3:x.cells.length=11:=rfl
  have h4:x.cells.all one=true:=rfl
  rw [aG h2,h1]
  unfold np
  rw [hg]
  simp only
  rw [aG (by simp only [dj,iC];exact ⟨by rw [CA,h3];omega,h4⟩),zxi hi]
 rw [he]
 refine hK _ ⟨by rw [Heap.size_set];exact hA,by rw [Heap.aM _ _ _ _ hA,aG rfl]⟩ ⟨by rw [Heap.size_set];exact aS _,λB hB aO=>by rw [Heap.aM _ _ _ _ hA,aA aO],by rw [Heap.cC];omega⟩
theorem lK {u:TypeId} {A:Nat} {ro:Bool} {h1:Heap} {bs:List bc} {w:Nat} (q:ak h1 A (.row (bl l) u ro)) (hx:l[i]? = some x):wD ((h1.lay bs w).get A) (i*11) 11=some x.val:=by
 have hh:(h1.lay bs w).get A=some (.row (bl l) u ro):=q.lay bs w
 rw [hh]
 show (cut (bl l) (i*11) 11).map _=_
 rw [zrw hx]
 rfl
def i3 (l:aU) (i j:Nat):aU:=(l.set i (l.getD j ah)).set j (l.getD i ah)
theorem ZL (l:aU) (i j:Nat):(i3 l i j).length=l.length:=by unfold i3;rw [ij,ij]
theorem jO (h:i < l.length):l[i]? = some (l.getD i ah):=by
 rw [lk,i4 h]
 rfl
theorem zD (hi:i < l.length) (hj:j < l.length) (k:Nat):(i3 l i j).getD k ah=if k=j then l.getD i ah else if k=i then l.getD j ah else l.getD k ah:=by
 unfold i3
 rw [lk,Fa,ij]
 by_cases h1:j=k
 .subst h1
  rw [aG rfl,aG hj,aG rfl]
  rfl
 .rw [aA h1,aA (λe=>h1 e.symm),Fa]
  by_cases h2:i=k
  .subst h2
   rw [aG rfl,aG hi,aG rfl]
   rfl
  .rw [aA h2,aA (λe=>h2 e.symm),lk]
theorem TH (hi:i < l.length) (hj:j < l.length):(i3 l i j).Perm l:=by
 unfold i3
 have e1:l.getD i ah=l[i]:=by rw [lk,i4 hi];rfl
 have e2:l.getD j ah=l[j]:=by rw [lk,i4 hj];rfl
 rw [e1,e2]
 exact List.set_set_perm hi hj
theorem El (a b:ae):aZ a b = - aZ b a:=zqM _ _
theorem EG {a:ae} (h:¬ aZ a b < 0):aZ b a<=0:=by
 rw [El b a]
 omega
theorem CL {a c:ae} (h1:aZ a b<=0) (h2:aZ b c<=0):aZ a c<=0:=by
 by_cases e1:aZ a b=0
 .have:=MF e1
  unfold aZ at *
  rw [this]
  exact h2
 .by_cases e2:aZ b c=0
  .have:=MF e2
   unfold aZ at *
   rw [<- this]
   exact h1
  .have h3:aZ a b < 0:=by omega
   have h4:aZ b c < 0:=by omega
   exact Int.le_of_lt (zm8 h3 h4)
def fA (l:aU) (a b:Nat):Prop:=∀ k,a < k->k < b->aZ (l.getD (k - 1) ah) (l.getD k ah)<=0
def CW (l l':aU) (a b:Nat):Prop:=∀ k,k < a\/b<=k->l'.getD k ah=l.getD k ah
def Kr (l:aU) (a i j:Nat):Prop:=(∀ k,a < k->k<=i->k≠j->aZ (l.getD (k - 1) ah) (l.getD k ah)<=0)/\(a < j->j < i->aZ (l.getD (j - 1) ah) (l.getD (j+1) ah)<=0)
theorem zp3 (h:fA l a i):Kr l a i i:=⟨λk h1 h2 h3=>h k h1 (by omega),λ_ h=>by omega⟩
theorem zof (h:Kr l a i j) (hj:j<=i) (he:a < j->aZ (l.getD (j - 1) ah) (l.getD j ah)<=0):fA l a (i+1):=by
 intro k h1 h2
 by_cases Xa:k=j
 .subst Xa
  exact he h1
 .exact h.1 k h1 (by omega) Xa
theorem zth (h:Kr l a i j) (Qb:a < j) (rR:j<=i) (hi:i < l.length) (aW:aZ (l.getD j ah) (l.getD (j - 1) ah) < 0):Kr (i3 l j (j - 1)) a i (j - 1):=by
 have g:=λk=>zD (l:=l) (i:=j) (j:=j - 1) (by omega) (by omega) k
 refine ⟨λk h1 h2 h3=>?_,λh1 h2=>?_⟩
 .rw [g,g]
  by_cases e1:k=j
  .subst e1
   rw [aG rfl,aA (by omega),aG rfl]
   omega
  .by_cases e2:k=j+1
   .subst e2
    rw [aA (by omega),aG (by omega),aA (by omega),aA (by omega)]
    have:=h.2 Qb (by omega)
    exact this
   .rw [aA (by omega),aA (by omega),aA (by omega),aA (by omega)]
    exact h.1 k h1 h2 (by omega)
 .rw [g,g]
  rw [aA (by omega),aA (by omega),aA (by omega),aG (by omega)]
  exact h.1 (j - 1) h1 (by omega) (by omega)
theorem zod (h:CW l l1 a (i+1)) (Qb:a < j) (rR:j<=i) (hi:i < l1.length):CW l (i3 l1 j (j - 1)) a (i+1):=by
 intro k hk
 rw [zD (by omega) (by omega),aA (by omega),aA (by omega)]
 exact h k hk
theorem zG (h:∀ x∈l,x.bE=true) (p:l1.Perm l):∀ x∈l1,x.bE=true:=λx hx=>h x (p.mem_iff.1 hx)
theorem rW (h:∀ x∈l,x.bE=true) (hk:k < l.length):(l.getD k ah).bE=true:=h _ (fV (jO hk))
def zS (l l':aU) (a b n:Nat):Prop:=∀ k,l'.getD k ah=if a<=k/\k < a+n then l.getD (k - a+b) ah else if b<=k/\k < b+n then l.getD (k - b+a) ah else l.getD k ah
theorem zqf (l:aU) (a b:Nat):zS l l a b 0:=by
 intro k
 rw [aA (by omega),aA (by omega)]
theorem zqe {b n:Nat} (h:zS l l1 a b i) (hd:a+n<=b) (hi:i < n) (hb:b+n<=l1.length):zS l (i3 l1 (a+i) (b+i)) a b (i+1):=by
 intro k
 rw [zD (by omega) (by omega),h,h,h]
 repeat' split
 all_goals first|rfl|(exfalso;omega)|(congr 1;omega)
def Dj (t cur:aU) (m i j:Nat):Prop:=∀ k,t.getD k ah=if m - i<=k/\k < m+j then (if k < m - i+j then cur.getD (k+i) ah else cur.getD (k - j) ah) else cur.getD k ah
theorem ztA (h:Dj t cur m i j) (qW:i<=m) (ej:j < i) (hs:zS cur new (m - i) m j):Dj t new m (i - j) j:=by
 intro k
 rw [h k,hs k,hs (k+(i - j)),hs (k - j)]
 repeat' split
 all_goals first|rfl|(exfalso;omega)|(congr 1;omega)
theorem zqk (h:Dj t cur m i j) (qW:i<=m) (ej:i < j) (hs:zS cur new (m - i) (m+j - i) i):Dj t new m i (j - i):=by
 intro k
 rw [h k,hs k,hs (k+i),hs (k - (j - i))]
 repeat' split
 all_goals first|rfl|(exfalso;omega)|(congr 1;omega)
theorem zv2 (h:Dj t cur m i i) (qW:i<=m) (hs:zS cur new (m - i) m i):∀ k,t.getD k ah=new.getD k ah:=by
 intro k
 rw [h k,hs k]
 repeat' split
 all_goals first|rfl|(exfalso;omega)|(congr 1;omega)
theorem Ub {m:aU} (hl:l.length=m.length) (h:∀ k,l.getD k ah=m.getD k ah):l=m:=by
 apply List.ext_getElem hl
 intro k h1 h2
 have:=h k
 rw [lk,lk,i4 h1,i4 h2] at this
 exact this
def wi (l:aU) (a m b:Nat):aU:=(List.range l.length).map λk=>if a<=k/\k < b then (if k < a+(b - m) then l.getD (k+(m - a)) ah else l.getD (k - (b - m)) ah) else l.getD k ah
theorem ZM (l:aU) (a m b:Nat):(wi l a m b).length=l.length:=by unfold wi;rw [fN,Dk]
theorem zqZ (h:l.length<=k):l.getD k ah=ah:=by
 rw [lk,ER h]
 rfl
theorem Mq {b:Nat} (hb:b<=l.length) (k:Nat):(wi l a m b).getD k ah=if a<=k/\k < b then (if k < a+(b - m) then l.getD (k+(m - a)) ah else l.getD (k - (b - m)) ah) else l.getD k ah:=by
 by_cases hk:k < l.length
 .rw [lk]
  unfold wi
  rw [jS,J5 hk]
  rfl
 .rw [zqZ (by rw [ZM];omega),aA (by omega),zqZ (by omega)]
theorem zql {b:Nat} (wJ:a<=m) (xk:m<=b) (hb:b<=l.length):Dj (wi l a m b) l m (m - a) (b - m):=by
 intro k
 rw [Mq hb]
 repeat' split
 all_goals first|rfl|(exfalso;omega)|(congr 1;omega)
def dP (l l':aU):Prop:=∀ t:List UInt8,l'.filter (λx=>gu x == t)=l.filter (λx=>gu x == t)
theorem dP.refl (l:aU):dP l l:=λ_=>rfl
theorem dP.trans {l l1 l2:aU} (x:dP l l1) (y:dP l1 l2):dP l l2:=λt=>(y t).trans (x t)
theorem Mw {a:ae} (h:aZ a b < 0):gu a≠gu b:=by
 intro e
 unfold aZ at h
 rw [e,ME] at h
 omega
theorem TU:∀ {l:aU} {k:Nat},k+1 < l.length->gu (l.getD k ah)≠gu (l.getD (k+1) ah)->dP l (i3 l k (k+1))
 | [],k,hk,_=>by simp at hk
 | [x],k,hk,_=>by simp at hk
 |x::y::r,0,_,aO=>by
  intro t
  have e:i3 (x::y::r) 0 1=y::x::r:=rfl
  rw [e]
  have Q6:gu x≠gu y:=aO
  by_cases hx:gu x=t
  .have hy:¬ gu y=t:=λh=>Q6 (hx.trans h.symm)
   simp [List.filter_cons,hx,hy]
  .simp [List.filter_cons,hx]
 |x::y::r,k+1,hk,aO=>by
  intro t
  have e:i3 (x::y::r) (k+1) (k+1+1)=x::i3 (y::r) k (k+1):=rfl
  rw [e,List.filter_cons,List.filter_cons,TU (l:=y::r) (k:=k) (by simpa using hk) aO t]
theorem ztr (hi:i < l.length) (hj:j < l.length):i3 l i j=i3 l j i:=by
 refine Ub (by rw [ZL,ZL]) (λk=>?_)
 rw [zD hi hj,zD hj hi]
 repeat' split
 all_goals first|rfl|(subst_vars;rfl)
theorem zoj (h0:0 < j) (hj:j < l.length) (aW:aZ (l.getD j ah) (l.getD (j - 1) ah) < 0):dP l (i3 l j (j - 1)):=by
 rw [ztr hj (by omega)]
 have:=TU (l:=l) (k:=j - 1) (by omega) (by rw [show j - 1+1=j by omega];exact λe=>Mw aW e.symm)
 rwa [show j - 1+1=j by omega] at this
theorem zzE (hk:k+1 < l.length) (aW:aZ (l.getD (k+1) ah) (l.getD k ah) < 0):dP l (i3 l k (k+1)):=TU hk (λe=>Mw aW e.symm)
end Go.Am
