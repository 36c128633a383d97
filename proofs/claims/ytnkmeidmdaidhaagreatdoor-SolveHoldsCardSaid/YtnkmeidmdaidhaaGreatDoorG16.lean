/- Strings in order, and the texts of atoms: plain facts about lists of bytes. No condition. -/
import Derived.Lib.Bytealg
import Derived.Test.YtnkmeidmdaidhaaGreatDoorG15
set_option linter.unusedSimpArgs false
set_option linter.unusedVariables false
namespace Go.Am
open Go.Lib
abbrev Bs:=List UInt8
theorem zij (a:UInt8):¬ a < a:=by rw [UInt8.lt_iff_toNat_lt];omega
theorem zyQ {a b:UInt8} (h1:¬ a < b) (h2:¬ b < a):a=b:=by
 rw [UInt8.lt_iff_toNat_lt] at h1 h2
 exact UInt8.toNat_inj.1 (by omega)
theorem OH:∀ a:Bs,compareBytes a a=0
 | []=>rfl
 |a::al=>by rw [compareBytes,aA (zij a),aA (zij a)];exact OH al
theorem OI:∀ {a b:Bs},compareBytes a b=0->a=b
 | [],[],_=>rfl
 | [],_::_,h=>by simp [compareBytes] at h
 |_::_,[],h=>by simp [compareBytes] at h
 |a::al,b::bs,h=>by
  rw [compareBytes] at h
  split at h
  .simp at h
  .rename_i h1
   split at h
   .simp at h
   .rename_i h2
    rw [zyQ h1 h2,OI h]
theorem zrD:∀ a b:Bs,compareBytes a b = - compareBytes b a
 | [],[]=>rfl
 | [],_::_=>rfl
 |_::_,[]=>rfl
 |a::al,b::bs=>by
  rw [compareBytes,compareBytes]
  by_cases h1:a < b
  .have h2:¬ b < a:=by rw [UInt8.lt_iff_toNat_lt] at h1 ⊢;omega
   rw [aB h1,aA h2,aB h1]
  .rw [aA h1]
   by_cases h2:b < a
   .rw [aB h2,aB h2];rfl
   .rw [aA h2,aA h2,aA h1];exact zrD al bs
theorem zn4:∀ {a b c:Bs},compareBytes a b < 0->compareBytes b c < 0->compareBytes a c < 0
 | [],[],_,h,_=>by simp [compareBytes] at h
 | [],_::_,[],_,h=>by simp [compareBytes] at h
 | [],_::_,_::_,_,_=>by simp [compareBytes]
 |_::_,[],_,h,_=>by simp [compareBytes] at h
 |_::_,_::_,[],_,h=>by simp [compareBytes] at h
 |a::al,b::bs,c::cs,h,k=>by
  rw [compareBytes] at h k ⊢
  simp only [UInt8.lt_iff_toNat_lt] at h k ⊢
  by_cases h1:a.toNat < b.toNat
  .by_cases h2:b.toNat < c.toNat
   .rw [aB (by omega)];decide
   .rw [aA h2] at k
    split at k
    .simp at k
    .rw [aB (by omega)];decide
  .rw [aA h1] at h
   split at h
   .simp at h
   .by_cases h2:b.toNat < c.toNat
    .rw [aB (by omega)];decide
    .rw [aA h2] at k
     split at k
     .simp at k
     .rw [aA (by omega),aA (by omega)]
      exact zn4 h k

def nT (c:UInt8):Prop:=c.toNat≠32/\c.toNat≠40/\c.toNat≠41/\c.toNat≠44
def Word (s:Bs):Prop:=∀ c∈s,nT c
theorem Ey:∀ {s t x y:Bs} {c d:UInt8},Word s->Word t->¬ nT c->¬ nT d->s++c::x=t++d::y->s=t/\c=d/\x=y
 | [],[],x,y,c,d,_,_,_,_,h=>by simp at h;exact ⟨rfl,h.1,h.2⟩
 | [],b::t,x,y,c,d,_,ht,hc,_,h=>by
  simp at h
  exact (hc (by rw [h.1];exact ht b (by simp))).elim
 |a::s,[],x,y,c,d,hs,_,_,hd,h=>by
  simp at h
  exact (hd (by rw [<- h.1];exact hs a (by simp))).elim
 |a::s,b::t,x,y,c,d,hs,ht,hc,hd,h=>by
  simp at h
  obtain ⟨h1,h2,h3⟩:=Ey (λq hq=>hs q (by simp [hq])) (λq hq=>ht q (by simp [hq])) hc hd h.2
  exact ⟨by rw [h.1,h1],h2,h3⟩
theorem Wu:∀ {s t y:Bs} {d:UInt8},Word s->¬ nT d->s≠t++d::y
 | [],t,y,d,_,_,h=>by cases t <;> simp at h
 |a::s,[],y,d,hs,hd,h=>by
  simp at h
  exact hd (by rw [<- h.1];exact hs a (by simp))
 |a::s,b::t,y,d,hs,hd,h=>by
  simp at h
  exact Wu (λq hq=>hs q (by simp [hq])) hd h.2
def G9 (names:List Bs):Bs:=match names with
 | []=>[]
 |n::ns=>40::(join (n::ns) [44,32]++[41])
def MA (says pred:Bs) (names:List Bs):Bs:=says++[32,115,97,121,115,32]++pred++G9 names
theorem Oc (n m:Bs) (ns:List Bs):join (n::m::ns) [44,32]=n++(44::32::join (m::ns) [44,32]):=by
 simp [join,List.intercalate]
theorem zrT:∀ {l m:List Bs},(∀ n∈l,Word n)->(∀ n∈m,Word n)->l≠[]->m≠[]->join l [44,32]++[41]=join m [44,32]++[41]->l=m
 | [],_,_,_,h,_,_=>(h rfl).elim
 |_::_,[],_,_,_,h,_=>(h rfl).elim
 | [a],[b],ha,hb,_,_,h=>by
  rw [join_one,join_one] at h
  rw [(Ey (ha a (by simp)) (hb b (by simp)) (by simp [nT]) (by simp [nT]) h).1]
 | [a],b::c::m,ha,hb,_,_,h=>by
  rw [join_one,Oc] at h
  simp only [sE,rO] at h
  have:=(Ey (ha a (by simp)) (hb b (by simp)) (by simp [nT]) (by simp [nT]) h).2.1
  simp at this
 |a::c::l,[b],ha,hb,_,_,h=>by
  rw [join_one,Oc] at h
  simp only [sE,rO] at h
  have:=(Ey (ha a (by simp)) (hb b (by simp)) (by simp [nT]) (by simp [nT]) h).2.1
  simp at this
 |a::c::l,b::d::m,ha,hb,_,_,h=>by
  rw [Oc,Oc] at h
  simp only [sE,rO] at h
  obtain ⟨h1,_,h3⟩:=Ey (ha a (by simp)) (hb b (by simp)) (by simp [nT]) (by simp [nT]) h
  simp only [List.cons.injEq,true_and] at h3
  have:=zrT (λn hn=>ha n (by simp at hn ⊢;exact .inr hn)) (λn hn=>hb n (by simp at hn ⊢;exact .inr hn)) (by simp) (by simp) h3
  rw [h1,this]
theorem zyM {s s' p p':Bs} {l l':List Bs} (hs:Word s) (fT:Word s') (hp:Word p) (kV:Word p') (hl:∀ n∈l,Word n) (yV:∀ n∈l',Word n) (h:MA s p l=MA s' p' l'):s=s'/\p=p'/\l=l':=by
 unfold MA at h
 simp only [sE,rO,yk] at h
 obtain ⟨h1,_,h2⟩:=Ey hs fT (by simp [nT]) (by simp [nT]) h
 simp only [List.cons.injEq,true_and] at h2
 cases l with
 |nil =>
  cases l' with
  |nil=>simp only [G9,bD] at h2;exact ⟨h1,h2,rfl⟩
  |cons n' ns' =>
   simp only [G9,bD] at h2
   exact (Wu hp (by simp [nT]) h2).elim
 |cons n ns =>
  cases l' with
  |nil =>
   simp only [G9,bD] at h2
   exact (Wu kV (by simp [nT]) h2.symm).elim
  |cons n' ns' =>
   simp only [G9] at h2
   obtain ⟨h3,_,h4⟩:=Ey hp kV (by simp [nT]) (by simp [nT]) h2
   exact ⟨h1,h3,zrT hl yV (by simp) (by simp) h4⟩
end Go.Am
namespace Go.Am
variable {b x:ae} {a i j k m:Nat} {cur l l1 new t:aN}
def bj (l:aN):List ai:=l.flatMap ae.cells
theorem zM (l:aN):(bj l).length=l.length*11:=by
 unfold bj
 induction l with
 |nil=>rfl
 |cons x l ih=>rw [G0,cT,ih,eB];show 11+_=_;omega
theorem zsn (h:l[i]? = some x):cut (bj l) (i*11) 11=some x.cells:=by
 have hi:=(fR.1 h).1
 unfold cut
 rw [aB (by rw [zM];omega)]
 congr 1
 unfold bj
 induction l generalizing i with
 |nil=>simp at h
 |cons y l ih =>
  cases i with
  |zero =>
   simp at h
   subst h
   rfl
  |succ i =>
   rw [G0,show (i+1)*11=y.cells.length+i*11 by show _=11+_;omega,Me]
   have h2:y.cells.drop (y.cells.length+i*11)=[]:=B8 (by omega)
   rw [h2,yk,LH]
   exact ih (by simpa using h) (by simpa using hi)
theorem zyx (hi:i < l.length):aI (bj l) (i*11) x.cells=bj (l.set i x):=by
 unfold aI
 have hx:x.cells.length=11:=rfl
 rw [hx]
 unfold bj
 induction l generalizing i with
 |nil=>simp at hi
 |cons y l ih =>
  have hy:y.cells.length=11:=rfl
  cases i with
  |zero =>
   rw [fW,G0,G0,Nat.zero_mul,Fj,yk,i5,Me,B8 (by omega),hy]
   simp
  |succ i =>
   rw [Ce,G0,G0,<- ih (i:=i) (by simpa using hi)]
   rw [show (i+1)*11=y.cells.length+i*11 by omega,List.take_append,iR (by omega),LH,show y.cells.length+i*11+11=y.cells.length+(i*11+11) by omega,Me,B8 (by omega),LH]
   simp
theorem zR {T:bN} {t u:TypeId} {A:Nat} {h1:Heap} {bs:List aZ} {w:Nat} {K:aO} (q:ak h1 A (.row (bj l) u false)) (hs:dF T t=some 11) (hi:i < l.length)
 (hK:∀ h',ak h' A (.row (bj (l.set i x)) u false)->fc A (h1.lay bs w) h'->K undef h'):kX (iQ T t (.pointer (some ⟨A,i*11,none⟩)) x.val (h1.lay bs w)) K:=by
 have hg:(h1.lay bs w).get A=some (.row (bj l) u false):=q.lay bs w
 have hA:A < (h1.lay bs w).size:=(q.on bs w).lt
 have he:iQ T t (.pointer (some ⟨A,i*11,none⟩)) x.val (h1.lay bs w)=some ((h1.lay bs w).set A (.row (bj (l.set i x)) u false)):=by
  unfold iQ
  simp only [hs,dH]
  have h1:x.val.cells.toList=x.cells:=rfl
  have h2:x.val.cells.size=11:=rfl
  have h3:x.cells.length=11:=rfl
  have h4:x.cells.all one=true:=rfl
  rw [aB h2,h1]
  unfold nQ
  rw [hg]
  simp only
  rw [aB (by simp only [dW,ix];exact ⟨by rw [zM,h3];omega,h4⟩),zyx hi]
 rw [he]
 refine hK _ ⟨by rw [Heap.size_set];exact hA,by rw [Heap.aH _ _ _ _ hA,aB rfl]⟩ ⟨by rw [Heap.size_set];exact aQ _,λB hB aL=>by rw [Heap.aH _ _ _ _ hA,aA aL],by rw [Heap.cA];omega⟩
theorem nf {u:TypeId} {A:Nat} {ro:Bool} {h1:Heap} {bs:List aZ} {w:Nat} (q:ak h1 A (.row (bj l) u ro)) (hx:l[i]? = some x):yA ((h1.lay bs w).get A) (i*11) 11=some x.val:=by
 have hh:(h1.lay bs w).get A=some (.row (bj l) u ro):=q.lay bs w
 rw [hh]
 show (cut (bj l) (i*11) 11).map _=_
 rw [zsn hx]
 rfl
def j5 (l:aN) (i j:Nat):aN:=(l.set i (l.getD j ah)).set j (l.getD i ah)
theorem zig (l:aN) (i j:Nat):(j5 l i j).length=l.length:=by unfold j5;rw [iS,iS]
theorem lg (h:i < l.length):l[i]? = some (l.getD i ah):=by
 rw [ni,gG h]
 rfl
theorem BK (hi:i < l.length) (hj:j < l.length) (k:Nat):(j5 l i j).getD k ah=if k=j then l.getD i ah else if k=i then l.getD j ah else l.getD k ah:=by
 unfold j5
 rw [ni,G1,iS]
 by_cases h1:j=k
 .subst h1
  rw [aB rfl,aB hj,aB rfl]
  rfl
 .rw [aA h1,aA (λe=>h1 e.symm),G1]
  by_cases h2:i=k
  .subst h2
   rw [aB rfl,aB hi,aB rfl]
   rfl
  .rw [aA h2,aA (λe=>h2 e.symm),ni]
theorem VU (hi:i < l.length) (hj:j < l.length):(j5 l i j).Perm l:=by
 unfold j5
 have e1:l.getD i ah=l[i]:=by rw [ni,gG hi];rfl
 have e2:l.getD j ah=l[j]:=by rw [ni,gG hj];rfl
 rw [e1,e2]
 exact List.set_set_perm hi hj
theorem Gg (a b:ae):bg a b = - bg b a:=zrD _ _
theorem GO {a:ae} (h:¬ bg a b < 0):bg b a<=0:=by
 rw [Gg b a]
 omega
theorem Ev {a c:ae} (h1:bg a b<=0) (h2:bg b c<=0):bg a c<=0:=by
 by_cases e1:bg a b=0
 .have:=OI e1
  unfold bg at *
  rw [this]
  exact h2
 .by_cases e2:bg b c=0
  .have:=OI e2
   unfold bg at *
   rw [<- this]
   exact h1
  .have h3:bg a b < 0:=by omega
   have h4:bg b c < 0:=by omega
   exact Int.le_of_lt (zn4 h3 h4)
def gC (l:aN) (a b:Nat):Prop:=∀ k,a < k->k < b->bg (l.getD (k - 1) ah) (l.getD k ah)<=0
def EN (l l':aN) (a b:Nat):Prop:=∀ k,k < a\/b<=k->l'.getD k ah=l.getD k ah
def Ms (l:aN) (a i j:Nat):Prop:=(∀ k,a < k->k<=i->k≠j->bg (l.getD (k - 1) ah) (l.getD k ah)<=0)/\(a < j->j < i->bg (l.getD (j - 1) ah) (l.getD (j+1) ah)<=0)
theorem zqU (h:gC l a i):Ms l a i i:=⟨λk h1 h2 h3=>h k h1 (by omega),λ_ h=>by omega⟩
theorem zpe (h:Ms l a i j) (hj:j<=i) (he:a < j->bg (l.getD (j - 1) ah) (l.getD j ah)<=0):gC l a (i+1):=by
 intro k h1 h2
 by_cases Zl:k=j
 .subst Zl
  exact he h1
 .exact h.1 k h1 (by omega) Zl
theorem zuf (h:Ms l a i j) (Si:a < j) (tX:j<=i) (hi:i < l.length) (bc:bg (l.getD j ah) (l.getD (j - 1) ah) < 0):Ms (j5 l j (j - 1)) a i (j - 1):=by
 have g:=λk=>BK (l:=l) (i:=j) (j:=j - 1) (by omega) (by omega) k
 refine ⟨λk h1 h2 h3=>?_,λh1 h2=>?_⟩
 .rw [g,g]
  by_cases e1:k=j
  .subst e1
   rw [aB rfl,aA (by omega),aB rfl]
   omega
  .by_cases e2:k=j+1
   .subst e2
    rw [aA (by omega),aB (by omega),aA (by omega),aA (by omega)]
    have:=h.2 Si (by omega)
    exact this
   .rw [aA (by omega),aA (by omega),aA (by omega),aA (by omega)]
    exact h.1 k h1 h2 (by omega)
 .rw [g,g]
  rw [aA (by omega),aA (by omega),aA (by omega),aB (by omega)]
  exact h.1 (j - 1) h1 (by omega) (by omega)
theorem zpc (h:EN l l1 a (i+1)) (Si:a < j) (tX:j<=i) (hi:i < l1.length):EN l (j5 l1 j (j - 1)) a (i+1):=by
 intro k hk
 rw [BK (by omega) (by omega),aA (by omega),aA (by omega)]
 exact h k hk
theorem BO (h:∀ x∈l,x.bQ=true) (p:l1.Perm l):∀ x∈l1,x.bQ=true:=λx hx=>h x (p.mem_iff.1 hx)
theorem um (h:∀ x∈l,x.bQ=true) (hk:k < l.length):(l.getD k ah).bQ=true:=h _ (ek (lg hk))
def B4 (l l':aN) (a b n:Nat):Prop:=∀ k,l'.getD k ah=if a<=k/\k < a+n then l.getD (k - a+b) ah else if b<=k/\k < b+n then l.getD (k - b+a) ah else l.getD k ah
theorem zq6 (l:aN) (a b:Nat):B4 l l a b 0:=by
 intro k
 rw [aA (by omega),aA (by omega)]
theorem zq5 {b n:Nat} (h:B4 l l1 a b i) (hd:a+n<=b) (hi:i < n) (hb:b+n<=l1.length):B4 l (j5 l1 (a+i) (b+i)) a b (i+1):=by
 intro k
 rw [BK (by omega) (by omega),h,h,h]
 repeat' split
 all_goals first|rfl|(exfalso;omega)|(congr 1;omega)
def Fa (t cur:aN) (m i j:Nat):Prop:=∀ k,t.getD k ah=if m - i<=k/\k < m+j then (if k < m - i+j then cur.getD (k+i) ah else cur.getD (k - j) ah) else cur.getD k ah
theorem zuv (h:Fa t cur m i j) (tf:i<=m) (fk:j < i) (hs:B4 cur new (m - i) m j):Fa t new m (i - j) j:=by
 intro k
 rw [h k,hs k,hs (k+(i - j)),hs (k - j)]
 repeat' split
 all_goals first|rfl|(exfalso;omega)|(congr 1;omega)
theorem zrb (h:Fa t cur m i j) (tf:i<=m) (fk:i < j) (hs:B4 cur new (m - i) (m+j - i) i):Fa t new m i (j - i):=by
 intro k
 rw [h k,hs k,hs (k+i),hs (k - (j - i))]
 repeat' split
 all_goals first|rfl|(exfalso;omega)|(congr 1;omega)
theorem zw8 (h:Fa t cur m i i) (tf:i<=m) (hs:B4 cur new (m - i) m i):∀ k,t.getD k ah=new.getD k ah:=by
 intro k
 rw [h k,hs k]
 repeat' split
 all_goals first|rfl|(exfalso;omega)|(congr 1;omega)
theorem WQ {m:aN} (hl:l.length=m.length) (h:∀ k,l.getD k ah=m.getD k ah):l=m:=by
 apply List.ext_getElem hl
 intro k h1 h2
 have:=h k
 rw [ni,ni,gG h1,gG h2] at this
 exact this
def ye (l:aN) (a m b:Nat):aN:=(List.range l.length).map λk=>if a<=k/\k < b then (if k < a+(b - m) then l.getD (k+(m - a)) ah else l.getD (k - (b - m)) ah) else l.getD k ah
theorem zih (l:aN) (a m b:Nat):(ye l a m b).length=l.length:=by unfold ye;rw [gq,Fb]
theorem zrQ (h:l.length<=k):l.getD k ah=ah:=by
 rw [ni,GR h]
 rfl
theorem Oy {b:Nat} (hb:b<=l.length) (k:Nat):(ye l a m b).getD k ah=if a<=k/\k < b then (if k < a+(b - m) then l.getD (k+(m - a)) ah else l.getD (k - (b - m)) ah) else l.getD k ah:=by
 by_cases hk:k < l.length
 .rw [ni]
  unfold ye
  rw [lk,LY hk]
  rfl
 .rw [zrQ (by rw [zih];omega),aA (by omega),zrQ (by omega)]
theorem zrc {b:Nat} (oY:a<=m) (za:m<=b) (hb:b<=l.length):Fa (ye l a m b) l m (m - a) (b - m):=by
 intro k
 rw [Oy hb]
 repeat' split
 all_goals first|rfl|(exfalso;omega)|(congr 1;omega)
def eI (l l':aN):Prop:=∀ t:List UInt8,l'.filter (λx=>iu x == t)=l.filter (λx=>iu x == t)
theorem eI.refl (l:aN):eI l l:=λ_=>rfl
theorem eI.trans {l l1 l2:aN} (x:eI l l1) (y:eI l1 l2):eI l l2:=λt=>(y t).trans (x t)
theorem OV {a:ae} (h:bg a b < 0):iu a≠iu b:=by
 intro e
 unfold bg at h
 rw [e,OH] at h
 omega
theorem Wm:∀ {l:aN} {k:Nat},k+1 < l.length->iu (l.getD k ah)≠iu (l.getD (k+1) ah)->eI l (j5 l k (k+1))
 | [],k,hk,_=>by simp at hk
 | [x],k,hk,_=>by simp at hk
 |x::y::r,0,_,aL=>by
  intro t
  have e:j5 (x::y::r) 0 1=y::x::r:=rfl
  rw [e]
  have Tp:iu x≠iu y:=aL
  by_cases hx:iu x=t
  .have hy:¬ iu y=t:=λh=>Tp (hx.trans h.symm)
   simp [List.filter_cons,hx,hy]
  .simp [List.filter_cons,hx]
 |x::y::r,k+1,hk,aL=>by
  intro t
  have e:j5 (x::y::r) (k+1) (k+1+1)=x::j5 (y::r) k (k+1):=rfl
  rw [e,List.filter_cons,List.filter_cons,Wm (l:=y::r) (k:=k) (by simpa using hk) aL t]
theorem zun (hi:i < l.length) (hj:j < l.length):j5 l i j=j5 l j i:=by
 refine WQ (by rw [zig,zig]) (λk=>?_)
 rw [BK hi hj,BK hj hi]
 repeat' split
 all_goals first|rfl|(subst_vars;rfl)
theorem zpi (h0:0 < j) (hj:j < l.length) (bc:bg (l.getD j ah) (l.getD (j - 1) ah) < 0):eI l (j5 l j (j - 1)):=by
 rw [zun hj (by omega)]
 have:=Wm (l:=l) (k:=j - 1) (by omega) (by rw [show j - 1+1=j by omega];exact λe=>OV bc e.symm)
 rwa [show j - 1+1=j by omega] at this
theorem zAK (hk:k+1 < l.length) (bc:bg (l.getD (k+1) ah) (l.getD k ah) < 0):eI l (j5 l k (k+1)):=Wm hk (λe=>OV bc e.symm)
end Go.Am
