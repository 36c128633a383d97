/- Strings in order, and the texts of atoms: plain facts about lists of bytes. No condition. -/
import Derived.Lib.Bytealg
import Derived.Test.YtmamldleclamjaaGreatDoorG11
set_option linter.unusedSimpArgs false
set_option linter.unusedVariables false
namespace Go.Am
open Go.Lib
abbrev Bs:=List UInt8
theorem Z7 (a:UInt8):¬ a < a:=by rw [UInt8.lt_iff_toNat_lt];omega
theorem zs5 {a b:UInt8} (h1:¬ a < b) (h2:¬ b < a):a=b:=by
 rw [UInt8.lt_iff_toNat_lt] at h1 h2
 exact UInt8.toNat_inj.1 (by omega)
theorem P9:∀ a:Bs,compareBytes a a=0
 | []=>rfl
 |a::al=>by rw [compareBytes,aA (Z7 a),aA (Z7 a)];exact P9 al
theorem I0:∀ {a b:Bs},compareBytes a b=0->a=b
 | [],[],_=>rfl
 | [],_::_,h=>by simp [compareBytes] at h
 |_::_,[],h=>by simp [compareBytes] at h
 |a::al,b::bs,h=>by
  rw [compareBytes] at h
  split at h
  .simp at h
  .rename_i h1
   split at h
   .simp at h
   .rename_i h2
    rw [zs5 h1 h2,I0 h]
theorem zmK:∀ a b:Bs,compareBytes a b = - compareBytes b a
 | [],[]=>rfl
 | [],_::_=>rfl
 |_::_,[]=>rfl
 |a::al,b::bs=>by
  rw [compareBytes,compareBytes]
  by_cases h1:a < b
  .have h2:¬ b < a:=by rw [UInt8.lt_iff_toNat_lt] at h1 ⊢;omega
   rw [aB h1,aA h2,aB h1]
  .rw [aA h1]
   by_cases h2:b < a
   .rw [aB h2,aB h2];rfl
   .rw [aA h2,aA h2,aA h1];exact zmK al bs
theorem zoo:∀ a b:Bs,compareBytes a b = -1\/compareBytes a b=0\/compareBytes a b=1
 | [],[]=>.inr (.inl rfl)
 | [],_::_=>.inl rfl
 |_::_,[]=>.inr (.inr rfl)
 |a::al,b::bs=>by
  rw [compareBytes]
  split
  .exact .inl rfl
  .split
   .exact .inr (.inr rfl)
   .exact zoo al bs
theorem zop:∀ {a b c:Bs},compareBytes a b < 0->compareBytes b c < 0->compareBytes a c < 0
 | [],[],_,h,_=>by simp [compareBytes] at h
 | [],_::_,[],_,h=>by simp [compareBytes] at h
 | [],_::_,_::_,_,_=>by simp [compareBytes]
 |_::_,[],_,h,_=>by simp [compareBytes] at h
 |_::_,_::_,[],_,h=>by simp [compareBytes] at h
 |a::al,b::bs,c::cs,h,k=>by
  rw [compareBytes] at h k ⊢
  simp only [UInt8.lt_iff_toNat_lt] at h k ⊢
  by_cases h1:a.toNat < b.toNat
  .by_cases h2:b.toNat < c.toNat
   .rw [aB (by omega)];decide
   .rw [aA h2] at k
    split at k
    .simp at k
    .rw [aB (by omega)];decide
  .rw [aA h1] at h
   split at h
   .simp at h
   .by_cases h2:b.toNat < c.toNat
    .rw [aB (by omega)];decide
    .rw [aA h2] at k
     split at k
     .simp at k
     .rw [aA (by omega),aA (by omega)]
      exact zop h k

def pg (c:UInt8):Prop:=c.toNat≠32/\c.toNat≠40/\c.toNat≠41/\c.toNat≠44
def Word (s:Bs):Prop:=∀ c∈s,pg c
theorem GR:∀ {s t x y:Bs} {c d:UInt8},Word s->Word t->¬ pg c->¬ pg d->s++c::x=t++d::y->s=t/\c=d/\x=y
 | [],[],x,y,c,d,_,_,_,_,h=>by simp at h;exact ⟨rfl,h.1,h.2⟩
 | [],b::t,x,y,c,d,_,ht,hc,_,h=>by
  simp at h
  exact (hc (by rw [h.1];exact ht b (by simp))).elim
 |a::s,[],x,y,c,d,hs,_,_,hd,h=>by
  simp at h
  exact (hd (by rw [<- h.1];exact hs a (by simp))).elim
 |a::s,b::t,x,y,c,d,hs,ht,hc,hd,h=>by
  simp at h
  obtain ⟨h1,h2,h3⟩:=GR (λq hq=>hs q (by simp [hq])) (λq hq=>ht q (by simp [hq])) hc hd h.2
  exact ⟨by rw [h.1,h1],h2,h3⟩
theorem znp:∀ {s t y:Bs} {d:UInt8},Word s->¬ pg d->s≠t++d::y
 | [],t,y,d,_,_,h=>by cases t <;> simp at h
 |a::s,[],y,d,hs,hd,h=>by
  simp at h
  exact hd (by rw [<- h.1];exact hs a (by simp))
 |a::s,b::t,y,d,hs,hd,h=>by
  simp at h
  exact znp (λq hq=>hs q (by simp [hq])) hd h.2
def JO (names:List Bs):Bs:=match names with
 | []=>[]
 |n::ns=>40::(join (n::ns) [44,32]++[41])
def Q0 (says pred:Bs) (names:List Bs):Bs:=says++[32,115,97,121,115,32]++pred++JO names
theorem SK (n m:Bs) (ns:List Bs):join (n::m::ns) [44,32]=n++(44::32::join (m::ns) [44,32]):=by
 simp [join,List.intercalate]
theorem zss:∀ {l m:List Bs},(∀ n∈l,Word n)->(∀ n∈m,Word n)->l≠[]->m≠[]->join l [44,32]++[41]=join m [44,32]++[41]->l=m
 | [],_,_,_,h,_,_=>(h rfl).elim
 |_::_,[],_,_,_,h,_=>(h rfl).elim
 | [a],[b],ha,hb,_,_,h=>by
  rw [join_one,join_one] at h
  rw [(GR (ha a (by simp)) (hb b (by simp)) (by simp [pg]) (by simp [pg]) h).1]
 | [a],b::c::m,ha,hb,_,_,h=>by
  rw [join_one,SK] at h
  simp only [ka,w8] at h
  have:=(GR (ha a (by simp)) (hb b (by simp)) (by simp [pg]) (by simp [pg]) h).2.1
  simp at this
 |a::c::l,[b],ha,hb,_,_,h=>by
  rw [join_one,SK] at h
  simp only [ka,w8] at h
  have:=(GR (ha a (by simp)) (hb b (by simp)) (by simp [pg]) (by simp [pg]) h).2.1
  simp at this
 |a::c::l,b::d::m,ha,hb,_,_,h=>by
  rw [SK,SK] at h
  simp only [ka,w8] at h
  obtain ⟨h1,_,h3⟩:=GR (ha a (by simp)) (hb b (by simp)) (by simp [pg]) (by simp [pg]) h
  simp only [List.cons.injEq,true_and] at h3
  have:=zss (λn hn=>ha n (by simp at hn ⊢;exact .inr hn)) (λn hn=>hb n (by simp at hn ⊢;exact .inr hn)) (by simp) (by simp) h3
  rw [h1,this]
theorem zz1 {s s' p p':Bs} {l l':List Bs} (hs:Word s) (lL:Word s') (hp:Word p) (mn:Word p') (hl:∀ n∈l,Word n) (Bf:∀ n∈l',Word n) (h:Q0 s p l=Q0 s' p' l'):s=s'/\p=p'/\l=l':=by
 unfold Q0 at h
 simp only [ka,w8,pk] at h
 obtain ⟨h1,_,h2⟩:=GR hs lL (by simp [pg]) (by simp [pg]) h
 simp only [List.cons.injEq,true_and] at h2
 cases l with
 |nil =>
  cases l' with
  |nil=>simp only [JO,bG] at h2;exact ⟨h1,h2,rfl⟩
  |cons n' ns' =>
   simp only [JO,bG] at h2
   exact (znp hp (by simp [pg]) h2).elim
 |cons n ns =>
  cases l' with
  |nil =>
   simp only [JO,bG] at h2
   exact (znp mn (by simp [pg]) h2.symm).elim
  |cons n' ns' =>
   simp only [JO] at h2
   obtain ⟨h3,_,h4⟩:=GR hp mn (by simp [pg]) (by simp [pg]) h2
   exact ⟨h1,h3,zss hl Bf (by simp) (by simp) h4⟩
end Go.Am
namespace Go.Am
variable {b x:aj} {a i j k m:Nat} {cur l l1 new t:aN}
def aQ (l:aN):List ah:=l.flatMap aj.cells
theorem nL (l:aN):(aQ l).length=l.length*11:=by
 unfold aQ
 induction l with
 |nil=>rfl
 |cons x l ih=>rw [HD,dI,ih,dY];show 11+_=_;omega
theorem zsT (h:l[i]? = some x):cut (aQ l) (i*11) 11=some x.cells:=by
 have hi:=(dH.1 h).1
 unfold cut
 rw [aB (by rw [nL];omega)]
 congr 1
 unfold aQ
 induction l generalizing i with
 |nil=>simp at h
 |cons y l ih =>
  cases i with
  |zero =>
   simp at h
   subst h
   rfl
  |succ i =>
   rw [HD,show (i+1)*11=y.cells.length+i*11 by show _=11+_;omega,Qx]
   have h2:y.cells.drop (y.cells.length+i*11)=[]:=wW (by omega)
   rw [h2,pk,Tn]
   exact ih (by simpa using h) (by simpa using hi)
theorem zsU (hi:i < l.length):aF (aQ l) (i*11) x.cells=aQ (l.set i x):=by
 unfold aF
 have hx:x.cells.length=11:=rfl
 rw [hx]
 unfold aQ
 induction l generalizing i with
 |nil=>simp at hi
 |cons y l ih =>
  have hy:y.cells.length=11:=rfl
  cases i with
  |zero =>
   rw [nR,HD,HD,Nat.zero_mul,Cg,pk,j3,Qx,wW (by omega),hy]
   simp
  |succ i =>
   rw [List.set_cons_succ,HD,HD,<- ih (i:=i) (by simpa using hi)]
   rw [show (i+1)*11=y.cells.length+i*11 by omega,List.take_append,gA (by omega),Tn,show y.cells.length+i*11+11=y.cells.length+(i*11+11) by omega,Qx,wW (by omega),Tn]
   simp
theorem BT {T:bO} {t u:TypeId} {A:Nat} {h1:Heap} {bs:List ba} {w:Nat} {K:aI} (q:Holds h1 A (.row (aQ l) u false)) (hs:di T t=some 11) (hi:i < l.length)
 (hK:∀ h',Holds h' A (.row (aQ (l.set i x)) u false)->eX A (h1.lay bs w) h'->K undef h'):iq (iO T t (.pointer (some ⟨A,i*11,none⟩)) x.val (h1.lay bs w)) K:=by
 have hg:(h1.lay bs w).get A=some (.row (aQ l) u false):=q.lay bs w
 have hA:A < (h1.lay bs w).size:=(q.on bs w).lt
 have he:iO T t (.pointer (some ⟨A,i*11,none⟩)) x.val (h1.lay bs w)=some ((h1.lay bs w).set A (.row (aQ (l.set i x)) u false)):=by
  unfold iO
  simp only [hs,dX]
  have h1:x.val.cells.toList=x.cells:=rfl
  have h2:x.val.cells.size=11:=rfl
  have h3:x.cells.length=11:=rfl
  have h4:x.cells.all one=true:=rfl
  rw [aB h2,h1]
  unfold lY
  rw [hg]
  simp only
  rw [aB (by simp only [eo,jl];exact ⟨by rw [nL,h3];omega,h4⟩),zsU hi]
 rw [he]
 refine hK _ ⟨by rw [Heap.size_set];exact hA,by rw [Heap.aJ _ _ _ _ hA,aB rfl]⟩ ⟨by rw [Heap.size_set];exact bo _,λB hB aS=>by rw [Heap.aJ _ _ _ _ hA,aA aS],by rw [Heap.cd];omega⟩
theorem oD {u:TypeId} {A:Nat} {ro:Bool} {h1:Heap} {bs:List ba} {w:Nat} (q:Holds h1 A (.row (aQ l) u ro)) (hx:l[i]? = some x):AR ((h1.lay bs w).get A) (i*11) 11=some x.val:=by
 have hh:(h1.lay bs w).get A=some (.row (aQ l) u ro):=q.lay bs w
 rw [hh]
 show (cut (aQ l) (i*11) 11).map _=_
 rw [zsT hx]
 rfl
def lp (l:aN) (i j:Nat):aN:=(l.set i (l.getD j ae)).set j (l.getD i ae)
theorem zid (l:aN) (i j:Nat):(lp l i j).length=l.length:=by unfold lp;rw [nB,nB]
theorem jJ (h:i < l.length):l[i]? = some (l.getD i ae):=by
 rw [lq,ie h]
 rfl
theorem Dw (hi:i < l.length) (hj:j < l.length) (k:Nat):(lp l i j).getD k ae=if k=j then l.getD i ae else if k=i then l.getD j ae else l.getD k ae:=by
 unfold lp
 rw [lq,rE,nB]
 by_cases h1:j=k
 .subst h1
  rw [aB rfl,aB hj,aB rfl]
  rfl
 .rw [aA h1,aA (λe=>h1 e.symm),rE]
  by_cases h2:i=k
  .subst h2
   rw [aB rfl,aB hi,aB rfl]
   rfl
  .rw [aA h2,aA (λe=>h2 e.symm),lq]
theorem zhF (hi:i < l.length) (hj:j < l.length):(lp l i j).Perm l:=by
 unfold lp
 have e1:l.getD i ae=l[i]:=by rw [lq,ie hi];rfl
 have e2:l.getD j ae=l[j]:=by rw [lq,ie hj];rfl
 rw [e1,e2]
 exact List.set_set_perm hi hj
theorem wJ (a b:aj):aU a b = - aU b a:=zmK _ _
theorem Je {a:aj} (h:¬ aU a b < 0):aU b a<=0:=by
 rw [wJ b a]
 omega
theorem GO {a c:aj} (h1:aU a b<=0) (h2:aU b c<=0):aU a c<=0:=by
 by_cases e1:aU a b=0
 .have:=I0 e1
  unfold aU at *
  rw [this]
  exact h2
 .by_cases e2:aU b c=0
  .have:=I0 e2
   unfold aU at *
   rw [<- this]
   exact h1
  .have h3:aU a b < 0:=by omega
   have h4:aU b c < 0:=by omega
   exact Int.le_of_lt (zop h3 h4)
def iw (l:aN) (a b:Nat):Prop:=∀ k,a < k->k < b->aU (l.getD (k - 1) ae) (l.getD k ae)<=0
def G8 (l l':aN) (a b:Nat):Prop:=∀ k,k < a\/b<=k->l'.getD k ae=l.getD k ae
def QU (l:aN) (a i j:Nat):Prop:=(∀ k,a < k->k<=i->k≠j->aU (l.getD (k - 1) ae) (l.getD k ae)<=0)/\(a < j->j < i->aU (l.getD (j - 1) ae) (l.getD (j+1) ae)<=0)
theorem zrs (h:iw l a i):QU l a i i:=⟨λk h1 h2 h3=>h k h1 (by omega),λ_ h=>by omega⟩
theorem zpH (h:QU l a i j) (hj:j<=i) (he:a < j->aU (l.getD (j - 1) ae) (l.getD j ae)<=0):iw l a (i+1):=by
 intro k h1 h2
 by_cases hkj:k=j
 .subst hkj
  exact he h1
 .exact h.1 k h1 (by omega) hkj
theorem zuR (h:QU l a i j) (W4:a < j) (lx:j<=i) (hi:i < l.length) (aW:aU (l.getD j ae) (l.getD (j - 1) ae) < 0):QU (lp l j (j - 1)) a i (j - 1):=by
 have g:=λk=>Dw (l:=l) (i:=j) (j:=j - 1) (by omega) (by omega) k
 refine ⟨λk h1 h2 h3=>?_,λh1 h2=>?_⟩
 .rw [g,g]
  by_cases e1:k=j
  .subst e1
   rw [aB rfl,aA (by omega),aB rfl]
   omega
  .by_cases e2:k=j+1
   .subst e2
    rw [aA (by omega),aB (by omega),aA (by omega),aA (by omega)]
    have:=h.2 W4 (by omega)
    exact this
   .rw [aA (by omega),aA (by omega),aA (by omega),aA (by omega)]
    exact h.1 k h1 h2 (by omega)
 .rw [g,g]
  rw [aA (by omega),aA (by omega),aA (by omega),aB (by omega)]
  exact h.1 (j - 1) h1 (by omega) (by omega)
theorem zpE (h:G8 l l1 a (i+1)) (W4:a < j) (lx:j<=i) (hi:i < l1.length):G8 l (lp l1 j (j - 1)) a (i+1):=by
 intro k hk
 rw [Dw (by omega) (by omega),aA (by omega),aA (by omega)]
 exact h k hk
theorem Dp (h:∀ x∈l,x.aY=true) (p:l1.Perm l):∀ x∈l1,x.aY=true:=λx hx=>h x (p.mem_iff.1 hx)
theorem rX (h:∀ x∈l,x.aY=true) (hk:k < l.length):(l.getD k ae).aY=true:=h _ (fW (jJ hk))
def DF (l l':aN) (a b n:Nat):Prop:=∀ k,l'.getD k ae=if a<=k/\k < a+n then l.getD (k - a+b) ae else if b<=k/\k < b+n then l.getD (k - b+a) ae else l.getD k ae
theorem zrE (l:aN) (a b:Nat):DF l l a b 0:=by
 intro k
 rw [aA (by omega),aA (by omega)]
theorem zrD {b n:Nat} (h:DF l l1 a b i) (hd:a+n<=b) (hi:i < n) (hb:b+n<=l1.length):DF l (lp l1 (a+i) (b+i)) a b (i+1):=by
 intro k
 rw [Dw (by omega) (by omega),h,h,h]
 repeat' split
 all_goals first|rfl|(exfalso;omega)|(congr 1;omega)
def HH (t cur:aN) (m i j:Nat):Prop:=∀ k,t.getD k ae=if m - i<=k/\k < m+j then (if k < m - i+j then cur.getD (k+i) ae else cur.getD (k - j) ae) else cur.getD k ae
theorem zve (h:HH t cur m i j) (vf:i<=m) (dp:j < i) (hs:DF cur new (m - i) m j):HH t new m (i - j) j:=by
 intro k
 rw [h k,hs k,hs (k+(i - j)),hs (k - j)]
 repeat' split
 all_goals first|rfl|(exfalso;omega)|(congr 1;omega)
theorem zrJ (h:HH t cur m i j) (vf:i<=m) (dp:i < j) (hs:DF cur new (m - i) (m+j - i) i):HH t new m i (j - i):=by
 intro k
 rw [h k,hs k,hs (k+i),hs (k - (j - i))]
 repeat' split
 all_goals first|rfl|(exfalso;omega)|(congr 1;omega)
theorem zye (h:HH t cur m i i) (vf:i<=m) (hs:DF cur new (m - i) m i):∀ k,t.getD k ae=new.getD k ae:=by
 intro k
 rw [h k,hs k]
 repeat' split
 all_goals first|rfl|(exfalso;omega)|(congr 1;omega)
theorem zmQ {m:aN} (hl:l.length=m.length) (h:∀ k,l.getD k ae=m.getD k ae):l=m:=by
 apply List.ext_getElem hl
 intro k h1 h2
 have:=h k
 rw [lq,lq,ie h1,ie h2] at this
 exact this
def An (l:aN) (a m b:Nat):aN:=(List.range l.length).map λk=>if a<=k/\k < b then (if k < a+(b - m) then l.getD (k+(m - a)) ae else l.getD (k - (b - m)) ae) else l.getD k ae
theorem zie (l:aN) (a m b:Nat):(An l a m b).length=l.length:=by unfold An;rw [nA,List.length_range]
theorem zsn (h:l.length<=k):l.getD k ae=ae:=by
 rw [lq,Hu h]
 rfl
theorem SX {b:Nat} (hb:b<=l.length) (k:Nat):(An l a m b).getD k ae=if a<=k/\k < b then (if k < a+(b - m) then l.getD (k+(m - a)) ae else l.getD (k - (b - m)) ae) else l.getD k ae:=by
 by_cases hk:k < l.length
 .rw [lq]
  unfold An
  rw [lS,List.getElem?_range hk]
  rfl
 .rw [zsn (by rw [zie];omega),aA (by omega),zsn (by omega)]
theorem zrK {b:Nat} (AZ:a<=m) (Bi:m<=b) (hb:b<=l.length):HH (An l a m b) l m (m - a) (b - m):=by
 intro k
 rw [SX hb]
 repeat' split
 all_goals first|rfl|(exfalso;omega)|(congr 1;omega)
def ff (l l':aN):Prop:=∀ t:List UInt8,l'.filter (λx=>cM x == t)=l.filter (λx=>cM x == t)
theorem ff.refl (l:aN):ff l l:=λ_=>rfl
theorem ff.trans {l l1 l2:aN} (x:ff l l1) (y:ff l1 l2):ff l l2:=λt=>(y t).trans (x t)
theorem I9 {a:aj} (h:aU a b < 0):cM a≠cM b:=by
 intro e
 unfold aU at h
 rw [e,P9] at h
 omega
theorem zkK:∀ {l:aN} {k:Nat},k+1 < l.length->cM (l.getD k ae)≠cM (l.getD (k+1) ae)->ff l (lp l k (k+1))
 | [],k,hk,_=>by simp at hk
 | [x],k,hk,_=>by simp at hk
 |x::y::r,0,_,aS=>by
  intro t
  have e:lp (x::y::r) 0 1=y::x::r:=rfl
  rw [e]
  have X2:cM x≠cM y:=aS
  by_cases hx:cM x=t
  .have hy:¬ cM y=t:=λh=>X2 (hx.trans h.symm)
   simp [HB,hx,hy]
  .simp [HB,hx]
 |x::y::r,k+1,hk,aS=>by
  intro t
  have e:lp (x::y::r) (k+1) (k+1+1)=x::lp (y::r) k (k+1):=rfl
  rw [e,HB,HB,zkK (l:=y::r) (k:=k) (by simpa using hk) aS t]
theorem zu0 (hi:i < l.length) (hj:j < l.length):lp l i j=lp l j i:=by
 refine zmQ (by rw [zid,zid]) (λk=>?_)
 rw [Dw hi hj,Dw hj hi]
 repeat' split
 all_goals first|rfl|(subst_vars;rfl)
theorem zpO (h0:0 < j) (hj:j < l.length) (aW:aU (l.getD j ae) (l.getD (j - 1) ae) < 0):ff l (lp l j (j - 1)):=by
 rw [zu0 hj (by omega)]
 have:=zkK (l:=l) (k:=j - 1) (by omega) (by rw [show j - 1+1=j by omega];exact λe=>I9 aW e.symm)
 rwa [show j - 1+1=j by omega] at this
theorem zCj (hk:k+1 < l.length) (aW:aU (l.getD (k+1) ae) (l.getD k ae) < 0):ff l (lp l k (k+1)):=zkK hk (λe=>I9 aW e.symm)
end Go.Am
namespace Go.Am
variable {a b c e i j k m mid r s:Nat} {l l' l1:aN}
theorem Dr (a:aj):aU a a=0:=P9 _
theorem zhl {a b c:aj} (h1:aU a b<=0) (h2:aU b c < 0):aU a c < 0:=by
 by_cases h:aU a c < 0
 .exact h
 .have h3:=GO (Je h) h1
  have h4:=wJ b c
  omega
theorem PK {a b c:aj} (h1:aU a b < 0) (h2:aU b c<=0):aU a c < 0:=by
 by_cases h:aU a c < 0
 .exact h
 .have h3:=GO h2 (Je h)
  have h4:=wJ a b
  omega
theorem yW (h:iw l a b) (hi:a<=i) (dp:i<=j) (hj:j < b):aU (l.getD i ae) (l.getD j ae)<=0:=by
 induction j with
 |zero =>
  have:i=0:=by omega
  subst this
  rw [Dr]
  exact Int.le_refl _
 |succ j ih =>
  by_cases e:i=j+1
  .subst e
   rw [Dr]
   exact Int.le_refl _
  .exact GO (ih (by omega) (by omega)) (h (j+1) (by omega) hj)
structure Mv (l l':aN) (a b:Nat):Prop where
 perm:l'.Perm l
 out:G8 l l' a b
 NU:∀ i,a<=i->i < b->∃ j,a<=j/\j < b/\l'.getD i ae=l.getD j ae
 yO:ff l l'
theorem Mv.refl (l:aN) (a b:Nat):Mv l l a b:=⟨List.Perm.refl _,λ_ _=>rfl,λi h1 h2=>⟨i,h1,h2,rfl⟩,ff.refl l⟩
theorem Mv.trans {l l1 l2:aN} {a b:Nat} (x:Mv l l1 a b) (y:Mv l1 l2 a b):Mv l l2 a b:=⟨y.perm.trans x.perm,λk hk=>(y.out k hk).trans (x.out k hk),λi h1 h2=>by
 obtain ⟨j,g1,g2,g3⟩:=y.NU i h1 h2
 obtain ⟨k,f1,f2,f3⟩:=x.NU j g1 g2
 exact ⟨k,f1,f2,g3.trans f3⟩,x.yO.trans y.yO⟩
theorem Mv.yR {a' b':Nat} (x:Mv l l' a b) (ha:a'<=a) (hb:b<=b'):Mv l l' a' b':=⟨x.perm,λk hk=>x.out k (by omega),λi h1 h2=>by
 by_cases h:a<=i/\i < b
 .obtain ⟨j,g1,g2,g3⟩:=x.NU i h.1 h.2
  exact ⟨j,by omega,by omega,g3⟩
 .exact ⟨i,h1,h2,x.out i (by omega)⟩,x.yO⟩
theorem Mv.swap (hi:a<=i/\i < b) (hj:a<=j/\j < b) (hb:b<=l.length) (hs:ff l (lp l i j)):Mv l (lp l i j) a b:=by
 have g:=λk=>Dw (l:=l) (i:=i) (j:=j) (by omega) (by omega) k
 refine ⟨zhF (by omega) (by omega),λk hk=>?_,λk h1 h2=>?_,hs⟩
 .rw [g,aA (by omega),aA (by omega)]
 .rw [g]
  split
  .exact ⟨i,by omega,by omega,rfl⟩
  .split
   .exact ⟨j,by omega,by omega,rfl⟩
   .exact ⟨k,h1,h2,rfl⟩
def DR (l l1:aN) (s m e:Nat):Prop:=∀ k,l1.getD k ae=if s<=k/\k < e then (if k < s+(e - m) then l.getD (k+(m - s)) ae else l.getD (k - (e - m)) ae) else l.getD k ae
theorem zz4 (hs:s<=m) (he:m<=e) (h:s=m\/m=e):DR l l s m e:=by
 intro k
 repeat' split
 all_goals first|rfl|(exfalso;omega)|(congr 1;omega)
theorem zz3 (h:DR l l1 s m e) (hs:s<=m) (he:m<=e) (hp:l1.Perm l) (eG:ff l l1):Mv l l1 s e:=by
 refine ⟨hp,λk hk=>?_,λk h1 h2=>?_,eG⟩
 .rw [h,aA (by omega)]
 .rw [h,aB ⟨h1,h2⟩]
  split
  .exact ⟨k+(m - s),by omega,by omega,rfl⟩
  .exact ⟨k - (e - m),by omega,by omega,rfl⟩
theorem zBF (h2:iw l (a+1) b) (hmi:a+1<=i) (RG:i<=b) (hl:i=a+1\/aU (l.getD (i - 1) ae) (l.getD a ae) < 0) (hr:i=b\/¬ aU (l.getD i ae) (l.getD a ae) < 0)
 (M5:∀ x,l'.getD x ae=if a<=x/\x < i - 1 then l.getD (x+1) ae else if x=i - 1 then l.getD a ae else l.getD x ae):iw l' a b:=by
 intro p h1 h3
 rw [M5,M5]
 by_cases c1:p < i - 1
 .rw [aB (by omega),aB (by omega)]
  have:=h2 (p+1) (by omega) (by omega)
  rw [Cd] at this
  rw [show p - 1+1=p by omega]
  exact this
 .by_cases c2:p=i - 1
  .subst c2
   rw [aB (by omega),aA (by omega),aB rfl,show i - 1 - 1+1=i - 1 by omega]
   rcases hl with hl|hl
   .omega
   .exact Int.le_of_lt hl
  .by_cases c3:p=i
   .subst c3
    rw [aA (by omega),aB rfl,aA (by omega),aA (by omega)]
    rcases hr with hr|hr
    .omega
    .exact Je hr
   .rw [aA (by omega),aA (by omega),aA (by omega),aA (by omega)]
    exact h2 p (by omega) h3
theorem zyX (h1:iw l a m) (Rx:a<=i) (vf:i<=m) (hl:i=a\/¬ aU (l.getD m ae) (l.getD (i - 1) ae) < 0) (hr:i=m\/aU (l.getD m ae) (l.getD i ae) < 0)
 (M5:∀ x,l'.getD x ae=if x=i then l.getD m ae else if i < x/\x<=m then l.getD (x - 1) ae else l.getD x ae):iw l' a (m+1):=by
 intro p h2 h3
 rw [M5,M5]
 by_cases c1:p < i
 .rw [aA (by omega),aA (by omega),aA (by omega),aA (by omega)]
  exact h1 p h2 (by omega)
 .by_cases c2:p=i
  .subst c2
   rw [aA (by omega),aA (by omega),aB rfl]
   rcases hl with hl|hl
   .omega
   .exact Je hl
  .by_cases c3:p=i+1
   .subst c3
    rw [aB (by omega),aA (by omega),aB (by omega),Cd]
    rcases hr with hr|hr
    .omega
    .exact Int.le_of_lt hr
   .rw [aA (by omega),aB (by omega),aA (by omega),aB (by omega)]
    exact h1 (p - 1) (by omega) (by omega)
structure pq (l:aN) (a m b mid s:Nat):Prop where
 lo:a<=s
 hi:s<=m
 vf:s<=mid
 ge:m<=mid+m - s
 le:mid+m - s<=b
 cl:s=a\/mid+m - s=b\/aU (l.getD (s - 1) ae) (l.getD (mid+m - s) ae)<=0
 cr:s=m\/s=mid\/aU (l.getD (mid+m - 1 - s) ae) (l.getD s ae) < 0
theorem zrx (h1:iw l a m) (h2:iw l m b) (p:pq l a m b mid s) (t:DR l l1 s m (mid+m - s)) :
 iw l1 a s/\iw l1 s mid/\iw l1 mid (mid+m - s)/\iw l1 (mid+m - s) b:=by
 obtain ⟨lo,hi,vf,ge,le,cl,cr⟩:=p
 refine ⟨λk g1 g2=>?_,λk g1 g2=>?_,λk g1 g2=>?_,λk g1 g2=>?_⟩
 .rw [t,t,aA (by omega),aA (by omega)]
  exact h1 k g1 (by omega)
 .rw [t,t,aB (by omega),aB (by omega),aB (by omega),aB (by omega),show k - 1+(m - s)=k+(m - s) - 1 by omega]
  exact h2 _ (by omega) (by omega)
 .rw [t,t,aB (by omega),aA (by omega),aB (by omega),aA (by omega),show k - 1 - (mid+m - s - m)=k - (mid+m - s - m) - 1 by omega]
  exact h1 _ (by omega) (by omega)
 .rw [t,t,aA (by omega),aA (by omega)]
  exact h2 k (by omega) g2
theorem zrw (h1:iw l a m) (h2:iw l m b) (p:pq l a m b mid s) (t:DR l l1 s m (mid+m - s)) (hi:a<=i) (vf:i < mid) (hj:mid<=j) (hjb:j < b) :
 aU (l1.getD i ae) (l1.getD j ae)<=0:=by
 obtain ⟨lo,Bc,anb,ge,le,cl,cr⟩:=p
 rw [t,t]
 by_cases c1:s<=i
 .-- from behind m
  rw [aB (by omega),aB (by omega)]
  by_cases c2:j < mid+m - s
  .rw [aB (by omega),aA (by omega)]
   rcases cr with cr|cr|cr
   .omega
   .omega
   .exact GO (yW h2 (i:=i+(m - s)) (j:=mid+m - 1 - s) (by omega) (by omega) (by omega)) (GO (Int.le_of_lt cr) (yW h1 (i:=s) (by omega) (by omega) (by omega)))
  .rw [aA (by omega)]
   exact yW h2 (by omega) (by omega) hjb
 .rw [aA (by omega)]
  by_cases c2:j < mid+m - s
  .rw [aB (by omega),aA (by omega)]
   exact yW h1 hi (by omega) (by omega)
  .rw [aA (by omega)]
   rcases cl with cl|cl|cl
   .omega
   .omega
   .exact GO (yW h1 (i:=i) (j:=s - 1) hi (by omega) (by omega)) (GO cl (yW h2 (i:=mid+m - s) (by omega) (by omega) hjb))
theorem zo6 {l2 l3:aN} (hc:∀ i j,a<=i->i < mid->mid<=j->j < b->aU (l1.getD i ae) (l1.getD j ae)<=0) (x:Mv l1 l2 a mid) (y:Mv l2 l3 mid b) (h2:iw l2 a mid) (h3:iw l3 mid b):iw l3 a b:=by
 intro p h4 h5
 by_cases c1:p < mid
 .rw [y.out _ (.inl (by omega)),y.out _ (.inl c1)]
  exact h2 p h4 c1
 .by_cases c2:p=mid
  .subst c2
   obtain ⟨j,g1,g2,g3⟩:=y.NU p (by omega) h5
   obtain ⟨i,f1,f2,f3⟩:=x.NU (p - 1) (by omega) (by omega)
   rw [y.out _ (.inl (by omega)),g3,x.out j (.inr (by omega)),f3]
   exact hc i j f1 f2 g1 g2
  .exact h3 p (by omega) h5
def xg (l l1:aN) (a k:Nat):Prop:=∀ x,l1.getD x ae=if a<=x/\x < k then l.getD (x+1) ae else if x=k then l.getD a ae else l.getD x ae
theorem zvh (l:aN) (a:Nat):xg l l a a:=by
 intro x
 repeat' split
 all_goals first|rfl|(exfalso;omega)|(congr 1;done)|(subst x;rfl)
theorem zyi (h:xg l l1 a k) (hak:a<=k) (hk:k+1 < l1.length):xg l (lp l1 k (k+1)) a (k+1):=by
 intro x
 rw [Dw (by omega) (by omega),h x,h k,h (k+1)]
 repeat' split
 all_goals first|rfl|(exfalso;omega)|(congr 1;omega)
def Qy (l l1:aN) (m k:Nat):Prop:=∀ x,l1.getD x ae=if x=k then l.getD m ae else if k < x/\x<=m then l.getD (x - 1) ae else l.getD x ae
theorem zov (l:aN) (m:Nat):Qy l l m m:=by
 intro x
 repeat' split
 all_goals first|rfl|(exfalso;omega)|(subst x;rfl)
theorem zqI (h:Qy l l1 m k) (wx:0 < k) (hkm:k<=m) (hm:m < l1.length):Qy l (lp l1 k (k - 1)) m (k - 1):=by
 intro x
 rw [Dw (by omega) (by omega),h x,h k,h (k - 1)]
 repeat' split
 all_goals first|rfl|(exfalso;omega)|(congr 1;omega)
structure iG (l:aN) (a m b mid s r:Nat):Prop where
 sr:s<=r
 Iy:m<=mid->a<=s/\r<=m
 Iz:mid < m->mid+m - b<=s/\r<=mid
 cl:(s=a/\m<=mid)\/(mid < m/\s=mid+m - b)\/aU (l.getD (s - 1) ae) (l.getD (mid+m - s) ae)<=0
 cr:(r=m/\m<=mid)\/(mid < m/\r=mid)\/aU (l.getD (mid+m - 1 - r) ae) (l.getD r ae) < 0
theorem zzW (AZ:a < m) (h:m<=mid):iG l a m b mid a m:=⟨by omega,λ_=>by omega,λ_=>by omega,.inl ⟨rfl,h⟩,.inl ⟨rfl,h⟩⟩
theorem zzX (Bi:m < b) (h:mid < m):iG l a m b mid (mid+m - b) mid:=⟨by omega,λ_=>by omega,λ_=>by omega,.inr (.inl ⟨h,rfl⟩),.inr (.inl ⟨h,rfl⟩)⟩
theorem zxW (h:iG l a m b mid s r) (h1:s<=c) (h2:c < r) (hc:¬ aU (l.getD (mid+m - 1 - c) ae) (l.getD c ae) < 0):iG l a m b mid (c+1) r:=by
 refine ⟨by omega,λg=>?_,λg=>?_,.inr (.inr ?_),h.cr⟩
 .have:=h.Iy g;omega
 .have:=h.Iz g;omega
 .rw [Cd,show mid+m - (c+1)=mid+m - 1 - c by omega]
  exact Je hc
theorem zrF (h:iG l a m b mid s r) (h1:s<=c) (h2:c < r) (hc:aU (l.getD (mid+m - 1 - c) ae) (l.getD c ae) < 0):iG l a m b mid s c:=by
 refine ⟨h1,λg=>?_,λg=>?_,h.cl,.inr (.inr hc)⟩
 .have:=h.Iy g;omega
 .have:=h.Iz g;omega
theorem zl3 (h:iG l a m b mid s s) (AZ:a < m) (Bi:m < b) (il:2*mid<=a+b) (fS:a+b<=2*mid+1):pq l a m b mid s:=by
 obtain ⟨sr,Iy,Iz,cl,cr⟩:=h
 rcases lB mid m with g|g
 .obtain ⟨f1,f2⟩:=Iz g
  refine ⟨by omega,by omega,f2,by omega,by omega,?_,?_⟩
  .rcases cl with ⟨e,_⟩|⟨_,e⟩|e
   .exact .inl e
   .exact .inr (.inl (by omega))
   .exact .inr (.inr e)
  .rcases cr with ⟨e,_⟩|⟨_,e⟩|e
   .exact .inl e
   .exact .inr (.inl e)
   .exact .inr (.inr e)
 .obtain ⟨f1,f2⟩:=Iy g
  refine ⟨f1,f2,by omega,by omega,by omega,?_,?_⟩
  .rcases cl with ⟨e,_⟩|⟨_,e⟩|e
   .exact .inl e
   .exact .inr (.inl (by omega))
   .exact .inr (.inr e)
  .rcases cr with ⟨e,_⟩|⟨_,e⟩|e
   .exact .inl e
   .exact .inr (.inl e)
   .exact .inr (.inr e)
theorem zxV (h:iG l a m b mid s r) (h1:s<=c) (h2:c < r) (AZ:a < m) (Bi:m < b) (il:2*mid<=a+b) (fS:a+b<=2*mid+1):c+1<=m/\m<=mid+m - 1 - c/\mid+m - 1 - c < b/\c+1<=mid+m:=by
 rcases lB mid m with g|g
 .obtain ⟨f1,f2⟩:=h.Iz g
  omega
 .obtain ⟨f1,f2⟩:=h.Iy g
  omega
theorem Sq (h:iw l a b) (he:∀ k,a<=k->k < b->l'.getD k ae=l.getD k ae):iw l' a b:=by
 intro k h1 h2
 rw [he k (by omega) h2,he (k - 1) (by omega) (by omega)]
 exact h k h1 h2
theorem zzA (hs:s<=m) (he:m<=e) (hl:e<=l.length):l=l.take s++((l.take m).drop s++((l.take e).drop m++l.drop e)):=by
 apply sq
 intro k
 simp only [zh,fw,jM,mc,kL]
 repeat' split
 all_goals first|rfl|(exfalso;omega)|(congr 1;omega)
theorem zCv (t:DR l l1 s m e) (hs:s<=m) (he:m<=e) (hl:e<=l.length) (hlen:l1.length=l.length):l1=l.take s++((l.take e).drop m++((l.take m).drop s++l.drop e)):=by
 refine zmQ (by simp only [dI,fw,jM];omega) (λk=>?_)
 rw [t k]
 simp only [lq,zh,fw,jM,mc,kL]
 repeat' split
 all_goals first|rfl|(exfalso;omega)|(congr 2;omega)
theorem zyd (t:DR l l1 s m e) (hs:s<=m) (he:m<=e) (hl:e<=l.length) (hlen:l1.length=l.length) (aS:∀ i j,s<=i->i < m->m<=j->j < e->cM (l.getD i ae)≠cM (l.getD j ae)):ff l l1:=by
 intro x
 rw [zCv t hs he hl hlen]
 conv=>rhs;rw [zzA hs he hl]
 simp only [Ao]
 by_cases hu:((l.take m).drop s).filter (λy=>cM y == x)=[]
 .rw [hu]
  simp
 .have hv:((l.take e).drop m).filter (λy=>cM y == x)=[]:=by
   rw [Jj]
   intro y hy th
   apply hu
   rw [Jj]
   intro z hz hzx
   obtain ⟨j,hj⟩:=sk hy
   obtain ⟨i,hi⟩:=sk hz
   rw [kL,mc] at hj hi
   split at hj
   .split at hi
    .rename_i g1 g2
     refine aS (s+i) (m+j) (by omega) g2 (by omega) g1 ?_
     rw [lq,lq,hj,hi]
     simp only [JL]
     rw [beq_iff_eq] at th hzx
     rw [th,hzx]
    .cases hi
   .cases hj
  rw [hv]
  simp
theorem zuW (h1:iw l a m) (h2:iw l m b) (p:pq l a m b mid s) (t:DR l l1 s m (mid+m - s)) (hb:b<=l.length) (hlen:l1.length=l.length):ff l l1:=by
 obtain ⟨lo,hi,vf,ge,le,cl,cr⟩:=p
 refine zyd t hi ge (by omega) hlen (λi j g1 g2 g3 g4 e=>?_)
 rcases cr with cr|cr|cr
 .omega
 .omega
 .have f1:=yW h2 (i:=j) (j:=mid+m - 1 - s) g3 (by omega) (by omega)
  have f2:=yW h1 (i:=s) (j:=i) lo g1 g2
  exact I9 (PK (zhl f1 cr) f2) e.symm
theorem zyj (h2:iw l (a+1) b) (RG:i<=b) (hl:i=a+1\/aU (l.getD (i - 1) ae) (l.getD a ae) < 0) (hak:a<=k) (hk:k < i - 1) (u:xg l l1 a k):aU (l1.getD (k+1) ae) (l1.getD k ae) < 0:=by
 rw [u,u,aA (by omega),aA (by omega),aA (by omega),aB rfl]
 rcases hl with hl|hl
 .omega
 .exact zhl (yW h2 (i:=k+1) (j:=i - 1) (by omega) (by omega) (by omega)) hl
theorem zqJ (h1:iw l a m) (Rx:a<=i) (hr:i=m\/aU (l.getD m ae) (l.getD i ae) < 0) (vd:i < k) (hkm:k<=m) (u:Qy l l1 m k):aU (l1.getD k ae) (l1.getD (k - 1) ae) < 0:=by
 rw [u,u,aB rfl,aA (by omega),aA (by omega)]
 rcases hr with hr|hr
 .omega
 .exact PK hr (yW h1 (i:=i) (j:=k - 1) Rx (by omega) (by omega))
end Go.Am
namespace Go.Am
variable {a n w:Nat} {l:aN}
theorem Ty {P:Program} {T:bO} {t:TypeId} {k:IntKind} {a b:Int}:cm P T .mul t (.int k a) (.int k b)=some (.int k (k.wrap (a*b))):=by
 have h1:((T.desc t).bind λd=>DV d (.int k a) (.int k b))=none:=by
  cases T.desc t with
  |none=>rfl
  |some d=>cases d <;> rfl
 have h2:jf P (binOp .mul t (.int k a) (.int k b))=some (.int k (k.wrap (a*b))):=by
  simp [binOp,Op.intArith,Ad]
 unfold cm
 have hf:r8 .mul (.int k a) (.int k b)=none:=rfl
 rw [hf]
 simp [h1,h2]
 exact ⟨⟨rfl,rfl⟩,rfl⟩
theorem zq5 {s:Nat} (h1:s % w=0) (h2:a % w=0) (h:s < a):s+w<=a:=by
 obtain ⟨i,rfl⟩:=Nat.dvd_of_mod_eq_zero h1
 obtain ⟨j,rfl⟩:=Nat.dvd_of_mod_eq_zero h2
 have dp:i < j:=Nat.lt_of_mul_lt_mul_left h
 rw [show w*i+w=w*(i+1) from (Nat.mul_succ w i).symm]
 exact Nat.mul_le_mul_left w dp
def Bl (l:aN) (w n a:Nat):Prop:=∀ s,s % w=0->s < a->iw l s (min (s+w) n)
theorem zqt {l':aN} (h:Bl l w n a) (ha:a % w=0) (hs:iw l' a (min (a+w) n)) (ho:G8 l l' a (min (a+w) n)) (b:Nat) (hb:b<=a+w):Bl l' w n b:=by
 intro s h1 h2
 rcases HA s a with g|g|g
 .have:=zq5 h1 ha g
  exact Sq (h s h1 g) (λk _ _=>ho k (.inl (by omega)))
 .subst g
  exact hs
 .have:=zq5 ha h1 g
  omega
theorem zCT (h:Bl l w n n) (hw:n<=w):iw l 0 n:=by
 intro k h1 h2
 exact h 0 (Nat.zero_mod _) (by omega) k h1 (by omega)
structure D6 (l:aN) (w n a:Nat):Prop where
 lo:Bl l (2*w) n a
 hi:∀ s,s % w=0->a<=s->s < n->iw l s (min (s+w) n)
theorem zv8 (h:Bl l w n n):D6 l w n 0:=⟨λs _ g=>absurd g (by omega),λs h1 _ h2=>h s h1 h2⟩
theorem zwS (h:a % (2*w)=0):a % w=0/\(a+w) % w=0:=by
 obtain ⟨i,rfl⟩:=Nat.dvd_of_mod_eq_zero h
 have h1:2*w*i % w=0:=by rw [show 2*w*i=w*(2*i) by rw [zl 2 w,Nat.mul_assoc]];exact Nat.mul_mod_right _ _
 exact ⟨h1,by rw [Nat.add_mod_right];exact h1⟩
theorem zor (h:D6 l w n a) (hw:0 < w) (ha:a % (2*w)=0) (hn:a+w < n):iw l a (a+w)/\iw l (a+w) (min (a+2*w) n):=by
 have:=zwS ha
 have g1:=h.hi a this.1 (by omega) (by omega)
 have g2:=h.hi (a+w) this.2 (by omega) hn
 rw [show min (a+w) n=a+w by omega] at g1
 rw [show min (a+w+w) n=min (a+2*w) n by omega] at g2
 exact ⟨g1,g2⟩
theorem zsa {l':aN} (h:D6 l w n a) (hw:0 < w) (ha:a % (2*w)=0) (hs:iw l' a (min (a+2*w) n)) (hm:Mv l l' a (min (a+2*w) n)):D6 l' w n (min (a+2*w) n):=by
 refine ⟨zqt h.lo ha hs hm.out _ (by omega),λs h1 h2 h3=>?_⟩
 exact Sq (h.hi s h1 (by omega) h3) (λk _ _=>hm.out k (.inr (by omega)))
theorem zBq (h:D6 l w n a) (hw:0 < w) (ha:a % (2*w)=0) (hn:n<=a+w):Bl l (2*w) n n:=by
 intro s h1 h2
 rcases HA s a with g|g|g
 .exact h.lo s h1 g
 .subst g
  have:=h.hi s (zwS ha).1 (by omega) h2
  rw [show min (s+w) n=min (s+2*w) n by omega] at this
  exact this
 .have:=zq5 ha h1 g
  omega
theorem zBp (h:D6 l w n a) (hn:n<=a):Bl l (2*w) n n:=λs h1 h2=>h.lo s h1 (by omega)
end Go.Am
