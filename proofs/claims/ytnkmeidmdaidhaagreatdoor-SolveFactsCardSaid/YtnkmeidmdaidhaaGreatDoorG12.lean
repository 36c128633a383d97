/- Strings in order, and the texts of atoms: plain facts about lists of bytes. No condition. -/
import Derived.Lib.Bytealg
import Derived.Test.YtnkmeidmdaidhaaGreatDoorG11
set_option linter.unusedSimpArgs false
set_option linter.unusedVariables false
namespace Go.Am
open Go.Lib
abbrev Bs:=List UInt8
theorem ziu (a:UInt8):¬ a < a:=by rw [UInt8.lt_iff_toNat_lt];omega
theorem zzV {a b:UInt8} (h1:¬ a < b) (h2:¬ b < a):a=b:=by
 rw [UInt8.lt_iff_toNat_lt] at h1 h2
 exact UInt8.toNat_inj.1 (by omega)
theorem Ql:∀ a:Bs,compareBytes a a=0
 | []=>rfl
 |a::al=>by rw [compareBytes,az (ziu a),az (ziu a)];exact Ql al
theorem Qm:∀ {a b:Bs},compareBytes a b=0->a=b
 | [],[],_=>rfl
 | [],_::_,h=>by simp [compareBytes] at h
 |_::_,[],h=>by simp [compareBytes] at h
 |a::al,b::bs,h=>by
  rw [compareBytes] at h
  split at h
  .simp at h
  .rename_i h1
   split at h
   .simp at h
   .rename_i h2
    rw [zzV h1 h2,Qm h]
theorem zse:∀ a b:Bs,compareBytes a b = - compareBytes b a
 | [],[]=>rfl
 | [],_::_=>rfl
 |_::_,[]=>rfl
 |a::al,b::bs=>by
  rw [compareBytes,compareBytes]
  by_cases h1:a < b
  .have h2:¬ b < a:=by rw [UInt8.lt_iff_toNat_lt] at h1 ⊢;omega
   rw [aD h1,az h2,aD h1]
  .rw [az h1]
   by_cases h2:b < a
   .rw [aD h2,aD h2];rfl
   .rw [az h2,az h2,az h1];exact zse al bs
theorem zop:∀ {a b c:Bs},compareBytes a b < 0->compareBytes b c < 0->compareBytes a c < 0
 | [],[],_,h,_=>by simp [compareBytes] at h
 | [],_::_,[],_,h=>by simp [compareBytes] at h
 | [],_::_,_::_,_,_=>by simp [compareBytes]
 |_::_,[],_,h,_=>by simp [compareBytes] at h
 |_::_,_::_,[],_,h=>by simp [compareBytes] at h
 |a::al,b::bs,c::cs,h,k=>by
  rw [compareBytes] at h k ⊢
  simp only [UInt8.lt_iff_toNat_lt] at h k ⊢
  by_cases h1:a.toNat < b.toNat
  .by_cases h2:b.toNat < c.toNat
   .rw [aD (by omega)];decide
   .rw [az h2] at k
    split at k
    .simp at k
    .rw [aD (by omega)];decide
  .rw [az h1] at h
   split at h
   .simp at h
   .by_cases h2:b.toNat < c.toNat
    .rw [aD (by omega)];decide
    .rw [az h2] at k
     split at k
     .simp at k
     .rw [az (by omega),az (by omega)]
      exact zop h k

def oI (c:UInt8):Prop:=c.toNat≠32/\c.toNat≠40/\c.toNat≠41/\c.toNat≠44
def Word (s:Bs):Prop:=∀ c∈s,oI c
theorem FG:∀ {s t x y:Bs} {c d:UInt8},Word s->Word t->¬ oI c->¬ oI d->s++c::x=t++d::y->s=t/\c=d/\x=y
 | [],[],x,y,c,d,_,_,_,_,h=>by simp at h;exact ⟨rfl,h.1,h.2⟩
 | [],b::t,x,y,c,d,_,ht,hc,_,h=>by
  simp at h
  exact (hc (by rw [h.1];exact ht b (by simp))).elim
 |a::s,[],x,y,c,d,hs,_,_,hd,h=>by
  simp at h
  exact (hd (by rw [<- h.1];exact hs a (by simp))).elim
 |a::s,b::t,x,y,c,d,hs,ht,hc,hd,h=>by
  simp at h
  obtain ⟨h1,h2,h3⟩:=FG (λq hq=>hs q (by simp [hq])) (λq hq=>ht q (by simp [hq])) hc hd h.2
  exact ⟨by rw [h.1,h1],h2,h3⟩
theorem YM:∀ {s t y:Bs} {d:UInt8},Word s->¬ oI d->s≠t++d::y
 | [],t,y,d,_,_,h=>by cases t <;> simp at h
 |a::s,[],y,d,hs,hd,h=>by
  simp at h
  exact hd (by rw [<- h.1];exact hs a (by simp))
 |a::s,b::t,y,d,hs,hd,h=>by
  simp at h
  exact YM (λq hq=>hs q (by simp [hq])) hd h.2
def Ip (names:List Bs):Bs:=match names with
 | []=>[]
 |n::ns=>40::(join (n::ns) [44,32]++[41])
def Oe (says pred:Bs) (names:List Bs):Bs:=says++[32,115,97,121,115,32]++pred++Ip names
theorem P1 (n m:Bs) (ns:List Bs):join (n::m::ns) [44,32]=n++(44::32::join (m::ns) [44,32]):=by
 simp [join,List.intercalate]
theorem zsu:∀ {l m:List Bs},(∀ n∈l,Word n)->(∀ n∈m,Word n)->l≠[]->m≠[]->join l [44,32]++[41]=join m [44,32]++[41]->l=m
 | [],_,_,_,h,_,_=>(h rfl).elim
 |_::_,[],_,_,_,h,_=>(h rfl).elim
 | [a],[b],ha,hb,_,_,h=>by
  rw [join_one,join_one] at h
  rw [(FG (ha a (by simp)) (hb b (by simp)) (by simp [oI]) (by simp [oI]) h).1]
 | [a],b::c::m,ha,hb,_,_,h=>by
  rw [join_one,P1] at h
  simp only [se,rh] at h
  have:=(FG (ha a (by simp)) (hb b (by simp)) (by simp [oI]) (by simp [oI]) h).2.1
  simp at this
 |a::c::l,[b],ha,hb,_,_,h=>by
  rw [join_one,P1] at h
  simp only [se,rh] at h
  have:=(FG (ha a (by simp)) (hb b (by simp)) (by simp [oI]) (by simp [oI]) h).2.1
  simp at this
 |a::c::l,b::d::m,ha,hb,_,_,h=>by
  rw [P1,P1] at h
  simp only [se,rh] at h
  obtain ⟨h1,_,h3⟩:=FG (ha a (by simp)) (hb b (by simp)) (by simp [oI]) (by simp [oI]) h
  simp only [List.cons.injEq,true_and] at h3
  have:=zsu (λn hn=>ha n (by simp at hn ⊢;exact .inr hn)) (λn hn=>hb n (by simp at hn ⊢;exact .inr hn)) (by simp) (by simp) h3
  rw [h1,this]
theorem zzR {s s' p p':Bs} {l l':List Bs} (hs:Word s) (fD:Word s') (hp:Word p) (lE:Word p') (hl:∀ n∈l,Word n) (Ab:∀ n∈l',Word n) (h:Oe s p l=Oe s' p' l'):s=s'/\p=p'/\l=l':=by
 unfold Oe at h
 simp only [se,rh,ya] at h
 obtain ⟨h1,_,h2⟩:=FG hs fD (by simp [oI]) (by simp [oI]) h
 simp only [List.cons.injEq,true_and] at h2
 cases l with
 |nil =>
  cases l' with
  |nil=>simp only [Ip,bC] at h2;exact ⟨h1,h2,rfl⟩
  |cons n' ns' =>
   simp only [Ip,bC] at h2
   exact (YM hp (by simp [oI]) h2).elim
 |cons n ns =>
  cases l' with
  |nil =>
   simp only [Ip,bC] at h2
   exact (YM lE (by simp [oI]) h2.symm).elim
  |cons n' ns' =>
   simp only [Ip] at h2
   obtain ⟨h3,_,h4⟩:=FG hp lE (by simp [oI]) (by simp [oI]) h2
   exact ⟨h1,h3,zsu hl Ab (by simp) (by simp) h4⟩
end Go.Am
namespace Go.Am
variable {b x:ae} {a i j k m:Nat} {cur l l1 new t:aN}
def bm (l:aN):List ai:=l.flatMap ae.cells
theorem Bd (l:aN):(bm l).length=l.length*11:=by
 unfold bm
 induction l with
 |nil=>rfl
 |cons x l ih=>rw [Ij,cE,ih,ek];show 11+_=_;omega
theorem zs5 (h:l[i]? = some x):cut (bm l) (i*11) 11=some x.cells:=by
 have hi:=(fG.1 h).1
 unfold cut
 rw [aD (by rw [Bd];omega)]
 congr 1
 unfold bm
 induction l generalizing i with
 |nil=>simp at h
 |cons y l ih =>
  cases i with
  |zero =>
   simp at h
   subst h
   rfl
  |succ i =>
   rw [Ij,show (i+1)*11=y.cells.length+i*11 by show _=11+_;omega,NL]
   have h2:y.cells.drop (y.cells.length+i*11)=[]:=C6 (by omega)
   rw [h2,ya,Nl]
   exact ih (by simpa using h) (by simpa using hi)
theorem zzz (hi:i < l.length):aI (bm l) (i*11) x.cells=bm (l.set i x):=by
 unfold aI
 have hx:x.cells.length=11:=rfl
 rw [hx]
 unfold bm
 induction l generalizing i with
 |nil=>simp at hi
 |cons y l ih =>
  have hy:y.cells.length=11:=rfl
  cases i with
  |zero =>
   rw [gd,Ij,Ij,Nat.zero_mul,Dp,ya,iA,NL,C6 (by omega),hy]
   simp
  |succ i =>
   rw [ze,Ij,Ij,<- ih (i:=i) (by simpa using hi)]
   rw [show (i+1)*11=y.cells.length+i*11 by omega,List.take_append,gb (by omega),Nl,show y.cells.length+i*11+11=y.cells.length+(i*11+11) by omega,NL,C6 (by omega),Nl]
   simp
theorem Bk {T:bJ} {t u:TypeId} {A:Nat} {h1:Heap} {bs:List aZ} {w:Nat} {K:aJ} (q:Holds h1 A (.row (bm l) u false)) (hs:dJ T t=some 11) (hi:i < l.length)
 (hK:∀ h',Holds h' A (.row (bm (l.set i x)) u false)->ff A (h1.lay bs w) h'->K undef h'):lG (i7 T t (.pointer (some ⟨A,i*11,none⟩)) x.val (h1.lay bs w)) K:=by
 have hg:(h1.lay bs w).get A=some (.row (bm l) u false):=q.lay bs w
 have hA:A < (h1.lay bs w).size:=(q.on bs w).lt
 have he:i7 T t (.pointer (some ⟨A,i*11,none⟩)) x.val (h1.lay bs w)=some ((h1.lay bs w).set A (.row (bm (l.set i x)) u false)):=by
  unfold i7
  simp only [hs,dO]
  have h1:x.val.cells.toList=x.cells:=rfl
  have h2:x.val.cells.size=11:=rfl
  have h3:x.cells.length=11:=rfl
  have h4:x.cells.all one=true:=rfl
  rw [aD h2,h1]
  unfold nM
  rw [hg]
  simp only
  rw [aD (by simp only [dK,jm];exact ⟨by rw [Bd,h3];omega,h4⟩),zzz hi]
 rw [he]
 refine hK _ ⟨by rw [Heap.size_set];exact hA,by rw [Heap.aG _ _ _ _ hA,aD rfl]⟩ ⟨by rw [Heap.size_set];exact aR _,λB hB aM=>by rw [Heap.aG _ _ _ _ hA,az aM],by rw [Heap.cM];omega⟩
theorem nJ {u:TypeId} {A:Nat} {ro:Bool} {h1:Heap} {bs:List aZ} {w:Nat} (q:Holds h1 A (.row (bm l) u ro)) (hx:l[i]? = some x):zD ((h1.lay bs w).get A) (i*11) 11=some x.val:=by
 have hh:(h1.lay bs w).get A=some (.row (bm l) u ro):=q.lay bs w
 rw [hh]
 show (cut (bm l) (i*11) 11).map _=_
 rw [zs5 hx]
 rfl
def ky (l:aN) (i j:Nat):aN:=(l.set i (l.getD j ah)).set j (l.getD i ah)
theorem zir (l:aN) (i j:Nat):(ky l i j).length=l.length:=by unfold ky;rw [ja,ja]
theorem lO (h:i < l.length):l[i]? = some (l.getD i ah):=by
 rw [me,iH h]
 rfl
theorem CV (hi:i < l.length) (hj:j < l.length) (k:Nat):(ky l i j).getD k ah=if k=j then l.getD i ah else if k=i then l.getD j ah else l.getD k ah:=by
 unfold ky
 rw [me,Ik,ja]
 by_cases h1:j=k
 .subst h1
  rw [aD rfl,aD hj,aD rfl]
  rfl
 .rw [az h1,az (λe=>h1 e.symm),Ik]
  by_cases h2:i=k
  .subst h2
   rw [aD rfl,aD hi,aD rfl]
   rfl
  .rw [az h2,az (λe=>h2 e.symm),me]
theorem XJ (hi:i < l.length) (hj:j < l.length):(ky l i j).Perm l:=by
 unfold ky
 have e1:l.getD i ah=l[i]:=by rw [me,iH hi];rfl
 have e2:l.getD j ah=l[j]:=by rw [me,iH hj];rfl
 rw [e1,e2]
 exact List.set_set_perm hi hj
theorem HA (a b:ae):bj a b = - bj b a:=zse _ _
theorem HR {a:ae} (h:¬ bj a b < 0):bj b a<=0:=by
 rw [HA b a]
 omega
theorem FD {a c:ae} (h1:bj a b<=0) (h2:bj b c<=0):bj a c<=0:=by
 by_cases e1:bj a b=0
 .have:=Qm e1
  unfold bj at *
  rw [this]
  exact h2
 .by_cases e2:bj b c=0
  .have:=Qm e2
   unfold bj at *
   rw [<- this]
   exact h1
  .have h3:bj a b < 0:=by omega
   have h4:bj b c < 0:=by omega
   exact Int.le_of_lt (zop h3 h4)
def gQ (l:aN) (a b:Nat):Prop:=∀ k,a < k->k < b->bj (l.getD (k - 1) ah) (l.getD k ah)<=0
def FZ (l l':aN) (a b:Nat):Prop:=∀ k,k < a\/b<=k->l'.getD k ah=l.getD k ah
def N2 (l:aN) (a i j:Nat):Prop:=(∀ k,a < k->k<=i->k≠j->bj (l.getD (k - 1) ah) (l.getD k ah)<=0)/\(a < j->j < i->bj (l.getD (j - 1) ah) (l.getD (j+1) ah)<=0)
theorem zrs (h:gQ l a i):N2 l a i i:=⟨λk h1 h2 h3=>h k h1 (by omega),λ_ h=>by omega⟩
theorem zpy (h:N2 l a i j) (hj:j<=i) (he:a < j->bj (l.getD (j - 1) ah) (l.getD j ah)<=0):gQ l a (i+1):=by
 intro k h1 h2
 by_cases hkj:k=j
 .subst hkj
  exact he h1
 .exact h.1 k h1 (by omega) hkj
theorem zu3 (h:N2 l a i j) (Ue:a < j) (na:j<=i) (hi:i < l.length) (aT:bj (l.getD j ah) (l.getD (j - 1) ah) < 0):N2 (ky l j (j - 1)) a i (j - 1):=by
 have g:=λk=>CV (l:=l) (i:=j) (j:=j - 1) (by omega) (by omega) k
 refine ⟨λk h1 h2 h3=>?_,λh1 h2=>?_⟩
 .rw [g,g]
  by_cases e1:k=j
  .subst e1
   rw [aD rfl,az (by omega),aD rfl]
   omega
  .by_cases e2:k=j+1
   .subst e2
    rw [az (by omega),aD (by omega),az (by omega),az (by omega)]
    have:=h.2 Ue (by omega)
    exact this
   .rw [az (by omega),az (by omega),az (by omega),az (by omega)]
    exact h.1 k h1 h2 (by omega)
 .rw [g,g]
  rw [az (by omega),az (by omega),az (by omega),aD (by omega)]
  exact h.1 (j - 1) h1 (by omega) (by omega)
theorem zpw (h:FZ l l1 a (i+1)) (Ue:a < j) (na:j<=i) (hi:i < l1.length):FZ l (ky l1 j (j - 1)) a (i+1):=by
 intro k hk
 rw [CV (by omega) (by omega),az (by omega),az (by omega)]
 exact h k hk
theorem CR (h:∀ x∈l,x.bW=true) (p:l1.Perm l):∀ x∈l1,x.bW=true:=λx hx=>h x (p.mem_iff.1 hx)
theorem uZ (h:∀ x∈l,x.bW=true) (hk:k < l.length):(l.getD k ah).bW=true:=h _ (en (lO hk))
def C5 (l l':aN) (a b n:Nat):Prop:=∀ k,l'.getD k ah=if a<=k/\k < a+n then l.getD (k - a+b) ah else if b<=k/\k < b+n then l.getD (k - b+a) ah else l.getD k ah
theorem zrF (l:aN) (a b:Nat):C5 l l a b 0:=by
 intro k
 rw [az (by omega),az (by omega)]
theorem zrE {b n:Nat} (h:C5 l l1 a b i) (hd:a+n<=b) (hi:i < n) (hb:b+n<=l1.length):C5 l (ky l1 (a+i) (b+i)) a b (i+1):=by
 intro k
 rw [CV (by omega) (by omega),h,h,h]
 repeat' split
 all_goals first|rfl|(exfalso;omega)|(congr 1;omega)
def Gf (t cur:aN) (m i j:Nat):Prop:=∀ k,t.getD k ah=if m - i<=k/\k < m+j then (if k < m - i+j then cur.getD (k+i) ah else cur.getD (k - j) ah) else cur.getD k ah
theorem zvl (h:Gf t cur m i j) (tS:i<=m) (fw:j < i) (hs:C5 cur new (m - i) m j):Gf t new m (i - j) j:=by
 intro k
 rw [h k,hs k,hs (k+(i - j)),hs (k - j)]
 repeat' split
 all_goals first|rfl|(exfalso;omega)|(congr 1;omega)
theorem zrL (h:Gf t cur m i j) (tS:i<=m) (fw:i < j) (hs:C5 cur new (m - i) (m+j - i) i):Gf t new m i (j - i):=by
 intro k
 rw [h k,hs k,hs (k+i),hs (k - (j - i))]
 repeat' split
 all_goals first|rfl|(exfalso;omega)|(congr 1;omega)
theorem zx7 (h:Gf t cur m i i) (tS:i<=m) (hs:C5 cur new (m - i) m i):∀ k,t.getD k ah=new.getD k ah:=by
 intro k
 rw [h k,hs k]
 repeat' split
 all_goals first|rfl|(exfalso;omega)|(congr 1;omega)
theorem Ym {m:aN} (hl:l.length=m.length) (h:∀ k,l.getD k ah=m.getD k ah):l=m:=by
 apply List.ext_getElem hl
 intro k h1 h2
 have:=h k
 rw [me,me,iH h1,iH h2] at this
 exact this
def y6 (l:aN) (a m b:Nat):aN:=(List.range l.length).map λk=>if a<=k/\k < b then (if k < a+(b - m) then l.getD (k+(m - a)) ah else l.getD (k - (b - m)) ah) else l.getD k ah
theorem zis (l:aN) (a m b:Nat):(y6 l a m b).length=l.length:=by unfold y6;rw [gw,Gg]
theorem zsr (h:l.length<=k):l.getD k ah=ah:=by
 rw [me,H2 h]
 rfl
theorem Qd {b:Nat} (hb:b<=l.length) (k:Nat):(y6 l a m b).getD k ah=if a<=k/\k < b then (if k < a+(b - m) then l.getD (k+(m - a)) ah else l.getD (k - (b - m)) ah) else l.getD k ah:=by
 by_cases hk:k < l.length
 .rw [me]
  unfold y6
  rw [lP,NI hk]
  rfl
 .rw [zsr (by rw [zis];omega),az (by omega),zsr (by omega)]
theorem zrM {b:Nat} (zL:a<=m) (Ak:m<=b) (hb:b<=l.length):Gf (y6 l a m b) l m (m - a) (b - m):=by
 intro k
 rw [Qd hb]
 repeat' split
 all_goals first|rfl|(exfalso;omega)|(congr 1;omega)
def eM (l l':aN):Prop:=∀ t:List UInt8,l'.filter (λx=>iG x == t)=l.filter (λx=>iG x == t)
theorem eM.refl (l:aN):eM l l:=λ_=>rfl
theorem eM.trans {l l1 l2:aN} (x:eM l l1) (y:eM l1 l2):eM l l2:=λt=>(y t).trans (x t)
theorem Qx {a:ae} (h:bj a b < 0):iG a≠iG b:=by
 intro e
 unfold bj at h
 rw [e,Ql] at h
 omega
theorem Yj:∀ {l:aN} {k:Nat},k+1 < l.length->iG (l.getD k ah)≠iG (l.getD (k+1) ah)->eM l (ky l k (k+1))
 | [],k,hk,_=>by simp at hk
 | [x],k,hk,_=>by simp at hk
 |x::y::r,0,_,aM=>by
  intro t
  have e:ky (x::y::r) 0 1=y::x::r:=rfl
  rw [e]
  have Va:iG x≠iG y:=aM
  by_cases hx:iG x=t
  .have hy:¬ iG y=t:=λh=>Va (hx.trans h.symm)
   simp [List.filter_cons,hx,hy]
  .simp [List.filter_cons,hx]
 |x::y::r,k+1,hk,aM=>by
  intro t
  have e:ky (x::y::r) (k+1) (k+1+1)=x::ky (y::r) k (k+1):=rfl
  rw [e,List.filter_cons,List.filter_cons,Yj (l:=y::r) (k:=k) (by simpa using hk) aM t]
theorem zvd (hi:i < l.length) (hj:j < l.length):ky l i j=ky l j i:=by
 refine Ym (by rw [zir,zir]) (λk=>?_)
 rw [CV hi hj,CV hj hi]
 repeat' split
 all_goals first|rfl|(subst_vars;rfl)
theorem zpD (h0:0 < j) (hj:j < l.length) (aT:bj (l.getD j ah) (l.getD (j - 1) ah) < 0):eM l (ky l j (j - 1)):=by
 rw [zvd hj (by omega)]
 have:=Yj (l:=l) (k:=j - 1) (by omega) (by rw [show j - 1+1=j by omega];exact λe=>Qx aT e.symm)
 rwa [show j - 1+1=j by omega] at this
theorem zB6 (hk:k+1 < l.length) (aT:bj (l.getD (k+1) ah) (l.getD k ah) < 0):eM l (ky l k (k+1)):=Yj hk (λe=>Qx aT e.symm)
end Go.Am
