/- Merging in place: plain facts. No condition. -/
import Derived.Test.YtdplfgoifjjniaaGreatDoorG23
set_option linter.unusedSimpArgs false
set_option linter.unusedVariables false
namespace Go.Am
theorem zd0 (a:AtomD):cmpD a a=0:=zhR _
theorem zgW {a b c:AtomD} (h1:cmpD a b≤0) (h2:cmpD b c < 0):cmpD a c < 0:=by
 by_cases h:cmpD a c < 0
 ·exact h
 ·have h3:=zcL (zgV h) h1
  have h4:=zct b c
  omega
theorem zdZ {a b c:AtomD} (h1:cmpD a b < 0) (h2:cmpD b c≤0):cmpD a c < 0:=by
 by_cases h:cmpD a c < 0
 ·exact h
 ·have h3:=zcL h2 (zgV h)
  have h4:=zct a b
  omega
theorem zbC {l:List AtomD} {a b:Nat} (h:zaG l a b) {i j:Nat} (hi:a≤i) (hij:i≤j) (hj:j < b):cmpD (l.getD i noAtomD) (l.getD j noAtomD)≤0:=by
 induction j with
 |zero =>
  have:i=0:=by omega
  subst this
  rw [zd0]
  exact Int.le_refl _
 |succ j ih =>
  by_cases e:i=j+1
  ·subst e
   rw [zd0]
   exact Int.le_refl _
  ·exact zcL (ih (by omega) (by omega)) (h (j+1) (by omega) hj)
structure Mv (l l':List AtomD) (a b:Nat):Prop where
 perm:l'.Perm l
 out:zfV l l' a b
 wit:∀ i,a≤i→i < b→∃ j,a≤j∧j < b∧l'.getD i noAtomD=l.getD j noAtomD
 stab:Stab l l'
theorem Mv.refl (l:List AtomD) (a b:Nat):Mv l l a b:=⟨List.Perm.refl _,fun _ _=>rfl,fun i h1 h2=>⟨i,h1,h2,rfl⟩,Stab.refl l⟩
theorem Mv.trans {l l1 l2:List AtomD} {a b:Nat} (x:Mv l l1 a b) (y:Mv l1 l2 a b):Mv l l2 a b:=⟨y.perm.trans x.perm,fun k hk=>(y.out k hk).trans (x.out k hk),fun i h1 h2=>by
 obtain ⟨j,g1,g2,g3⟩:=y.wit i h1 h2
 obtain ⟨k,f1,f2,f3⟩:=x.wit j g1 g2
 exact ⟨k,f1,f2,g3.trans f3⟩,x.stab.trans y.stab⟩
theorem Mv.widen {l l':List AtomD} {a b a' b':Nat} (x:Mv l l' a b) (ha:a'≤a) (hb:b≤b'):Mv l l' a' b':=⟨x.perm,fun k hk=>x.out k (by omega),fun i h1 h2=>by
 by_cases h:a≤i∧i < b
 ·obtain ⟨j,g1,g2,g3⟩:=x.wit i h.1 h.2
  exact ⟨j,by omega,by omega,g3⟩
 ·exact ⟨i,h1,h2,x.out i (by omega)⟩,x.stab⟩
theorem Mv.swap {l:List AtomD} {a b i j:Nat} (hi:a≤i∧i < b) (hj:a≤j∧j < b) (hb:b≤l.length) (hs:Stab l (zcG l i j)):Mv l (zcG l i j) a b:=by
 have g:=fun k=>zc2 (l:=l) (i:=i) (j:=j) (by omega) (by omega) k
 refine ⟨zhh (by omega) (by omega),fun k hk=>?_,fun k h1 h2=>?_,hs⟩
 ·rw [g,if_neg (by omega),if_neg (by omega)]
 ·rw [g]
  split
  ·exact ⟨i,by omega,by omega,rfl⟩
  ·split
   ·exact ⟨j,by omega,by omega,rfl⟩
   ·exact ⟨k,h1,h2,rfl⟩
def zlz (l l1:List AtomD) (s m e:Nat):Prop:=∀ k,l1.getD k noAtomD=if s≤k∧k < e then (if k < s+(e - m) then l.getD (k+(m - s)) noAtomD else l.getD (k - (e - m)) noAtomD) else l.getD k noAtomD
theorem zw4 {l:List AtomD} {s m e:Nat} (hs:s≤m) (he:m≤e) (h:s=m∨m=e):zlz l l s m e:=by
 intro k
 repeat' split
 all_goals first|rfl|(exfalso;omega)|(congr 1;omega)
theorem zw3 {l l1:List AtomD} {s m e:Nat} (h:zlz l l1 s m e) (hs:s≤m) (he:m≤e) (hp:l1.Perm l) (hst:Stab l l1):Mv l l1 s e:=by
 refine ⟨hp,fun k hk=>?_,fun k h1 h2=>?_,hst⟩
 ·rw [h,if_neg (by omega)]
 ·rw [h,if_pos ⟨h1,h2⟩]
  split
  ·exact ⟨k+(m - s),by omega,by omega,rfl⟩
  ·exact ⟨k - (e - m),by omega,by omega,rfl⟩
theorem zyN {l l':List AtomD} {a b i:Nat} (h2:zaG l (a+1) b) (hmi:a+1≤i) (hib:i≤b) (hl:i=a+1∨cmpD (l.getD (i - 1) noAtomD) (l.getD a noAtomD) < 0) (hr:i=b∨¬ cmpD (l.getD i noAtomD) (l.getD a noAtomD) < 0)
 (hsh:∀ x,l'.getD x noAtomD=if a≤x∧x < i - 1 then l.getD (x+1) noAtomD else if x=i - 1 then l.getD a noAtomD else l.getD x noAtomD):zaG l' a b:=by
 intro p h1 h3
 rw [hsh,hsh]
 by_cases c1:p < i - 1
 ·rw [if_pos (by omega),if_pos (by omega)]
  have:=h2 (p+1) (by omega) (by omega)
  rw [Nat.add_sub_cancel] at this
  rw [show p - 1+1=p by omega]
  exact this
 ·by_cases c2:p=i - 1
  ·subst c2
   rw [if_pos (by omega),if_neg (by omega),if_pos rfl,show i - 1 - 1+1=i - 1 by omega]
   rcases hl with hl|hl
   ·omega
   ·exact Int.le_of_lt hl
  ·by_cases c3:p=i
   ·subst c3
    rw [if_neg (by omega),if_pos rfl,if_neg (by omega),if_neg (by omega)]
    rcases hr with hr|hr
    ·omega
    ·exact zgV hr
   ·rw [if_neg (by omega),if_neg (by omega),if_neg (by omega),if_neg (by omega)]
    exact h2 p (by omega) h3
theorem zvi {l l':List AtomD} {a m i:Nat} (h1:zaG l a m) (hai:a≤i) (him:i≤m) (hl:i=a∨¬ cmpD (l.getD m noAtomD) (l.getD (i - 1) noAtomD) < 0) (hr:i=m∨cmpD (l.getD m noAtomD) (l.getD i noAtomD) < 0)
 (hsh:∀ x,l'.getD x noAtomD=if x=i then l.getD m noAtomD else if i < x∧x≤m then l.getD (x - 1) noAtomD else l.getD x noAtomD):zaG l' a (m+1):=by
 intro p h2 h3
 rw [hsh,hsh]
 by_cases c1:p < i
 ·rw [if_neg (by omega),if_neg (by omega),if_neg (by omega),if_neg (by omega)]
  exact h1 p h2 (by omega)
 ·by_cases c2:p=i
  ·subst c2
   rw [if_neg (by omega),if_neg (by omega),if_pos rfl]
   rcases hl with hl|hl
   ·omega
   ·exact zgV hl
  ·by_cases c3:p=i+1
   ·subst c3
    rw [if_pos (by omega),if_neg (by omega),if_pos (by omega),Nat.add_sub_cancel]
    rcases hr with hr|hr
    ·omega
    ·exact Int.le_of_lt hr
   ·rw [if_neg (by omega),if_pos (by omega),if_neg (by omega),if_pos (by omega)]
    exact h1 (p - 1) (by omega) (by omega)
structure SplitS (l:List AtomD) (a m b mid s:Nat):Prop where
 lo:a≤s
 hi:s≤m
 him:s≤mid
 ge:m≤mid+m - s
 le:mid+m - s≤b
 cl:s=a∨mid+m - s=b∨cmpD (l.getD (s - 1) noAtomD) (l.getD (mid+m - s) noAtomD)≤0
 cr:s=m∨s=mid∨cmpD (l.getD (mid+m - 1 - s) noAtomD) (l.getD s noAtomD) < 0
theorem zoH {l l1:List AtomD} {a m b mid s:Nat} (h1:zaG l a m) (h2:zaG l m b) (p:SplitS l a m b mid s) (t:zlz l l1 s m (mid+m - s)) :
 zaG l1 a s∧zaG l1 s mid∧zaG l1 mid (mid+m - s)∧zaG l1 (mid+m - s) b:=by
 obtain ⟨lo,hi,him,ge,le,cl,cr⟩:=p
 refine ⟨fun k g1 g2=>?_,fun k g1 g2=>?_,fun k g1 g2=>?_,fun k g1 g2=>?_⟩
 ·rw [t,t,if_neg (by omega),if_neg (by omega)]
  exact h1 k g1 (by omega)
 ·rw [t,t,if_pos (by omega),if_pos (by omega),if_pos (by omega),if_pos (by omega),show k - 1+(m - s)=k+(m - s) - 1 by omega]
  exact h2 _ (by omega) (by omega)
 ·rw [t,t,if_pos (by omega),if_neg (by omega),if_pos (by omega),if_neg (by omega),show k - 1 - (mid+m - s - m)=k - (mid+m - s - m) - 1 by omega]
  exact h1 _ (by omega) (by omega)
 ·rw [t,t,if_neg (by omega),if_neg (by omega)]
  exact h2 k (by omega) g2
theorem zoG {l l1:List AtomD} {a m b mid s:Nat} (h1:zaG l a m) (h2:zaG l m b) (p:SplitS l a m b mid s) (t:zlz l l1 s m (mid+m - s)) {i j:Nat} (hi:a≤i) (him:i < mid) (hj:mid≤j) (hjb:j < b) :
 cmpD (l1.getD i noAtomD) (l1.getD j noAtomD)≤0:=by
 obtain ⟨lo,hi2,him2,ge,le,cl,cr⟩:=p
 rw [t,t]
 by_cases c1:s≤i
 ·-- from behind m
  rw [if_pos (by omega),if_pos (by omega)]
  by_cases c2:j < mid+m - s
  ·rw [if_pos (by omega),if_neg (by omega)]
   rcases cr with cr|cr|cr
   ·omega
   ·omega
   ·exact zcL (zbC h2 (i:=i+(m - s)) (j:=mid+m - 1 - s) (by omega) (by omega) (by omega)) (zcL (Int.le_of_lt cr) (zbC h1 (i:=s) (by omega) (by omega) (by omega)))
  ·rw [if_neg (by omega)]
   exact zbC h2 (by omega) (by omega) hjb
 ·rw [if_neg (by omega)]
  by_cases c2:j < mid+m - s
  ·rw [if_pos (by omega),if_neg (by omega)]
   exact zbC h1 hi (by omega) (by omega)
  ·rw [if_neg (by omega)]
   rcases cl with cl|cl|cl
   ·omega
   ·omega
   ·exact zcL (zbC h1 (i:=i) (j:=s - 1) hi (by omega) (by omega)) (zcL cl (zbC h2 (i:=mid+m - s) (by omega) (by omega) hjb))
theorem zmu {l1 l2 l3:List AtomD} {a mid b:Nat} (hc:∀ i j,a≤i→i < mid→mid≤j→j < b→cmpD (l1.getD i noAtomD) (l1.getD j noAtomD)≤0) (x:Mv l1 l2 a mid) (y:Mv l2 l3 mid b) (h2:zaG l2 a mid) (h3:zaG l3 mid b):zaG l3 a b:=by
 intro p h4 h5
 by_cases c1:p < mid
 ·rw [y.out _ (.inl (by omega)),y.out _ (.inl c1)]
  exact h2 p h4 c1
 ·by_cases c2:p=mid
  ·subst c2
   obtain ⟨j,g1,g2,g3⟩:=y.wit p (by omega) h5
   obtain ⟨i,f1,f2,f3⟩:=x.wit (p - 1) (by omega) (by omega)
   rw [y.out _ (.inl (by omega)),g3,x.out j (.inr (by omega)),f3]
   exact hc i j f1 f2 g1 g2
  ·exact h3 p (by omega) h5
def UpTo (l l1:List AtomD) (a k:Nat):Prop:=∀ x,l1.getD x noAtomD=if a≤x∧x < k then l.getD (x+1) noAtomD else if x=k then l.getD a noAtomD else l.getD x noAtomD
theorem zrq (l:List AtomD) (a:Nat):UpTo l l a a:=by
 intro x
 repeat' split
 all_goals first|rfl|(exfalso;omega)|(congr 1;done)|(subst x;rfl)
theorem zuz {l l1:List AtomD} {a k:Nat} (h:UpTo l l1 a k) (hak:a≤k) (hk:k+1 < l1.length):UpTo l (zcG l1 k (k+1)) a (k+1):=by
 intro x
 rw [zc2 (by omega) (by omega),h x,h k,h (k+1)]
 repeat' split
 all_goals first|rfl|(exfalso;omega)|(congr 1;omega)
def zlw (l l1:List AtomD) (m k:Nat):Prop:=∀ x,l1.getD x noAtomD=if x=k then l.getD m noAtomD else if k < x∧x≤m then l.getD (x - 1) noAtomD else l.getD x noAtomD
theorem zlX (l:List AtomD) (m:Nat):zlw l l m m:=by
 intro x
 repeat' split
 all_goals first|rfl|(exfalso;omega)|(subst x;rfl)
theorem znM {l l1:List AtomD} {m k:Nat} (h:zlw l l1 m k) (hk0:0 < k) (hkm:k≤m) (hm:m < l1.length):zlw l (zcG l1 k (k - 1)) m (k - 1):=by
 intro x
 rw [zc2 (by omega) (by omega),h x,h k,h (k - 1)]
 repeat' split
 all_goals first|rfl|(exfalso;omega)|(congr 1;omega)
structure SymInv (l:List AtomD) (a m b mid s r:Nat):Prop where
 sr:s≤r
 le1:m≤mid→a≤s∧r≤m
 le2:mid < m→mid+m - b≤s∧r≤mid
 cl:(s=a∧m≤mid)∨(mid < m∧s=mid+m - b)∨cmpD (l.getD (s - 1) noAtomD) (l.getD (mid+m - s) noAtomD)≤0
 cr:(r=m∧m≤mid)∨(mid < m∧r=mid)∨cmpD (l.getD (mid+m - 1 - r) noAtomD) (l.getD r noAtomD) < 0
theorem zv5 {l:List AtomD} {a m b mid:Nat} (ham:a < m) (h:m≤mid):SymInv l a m b mid a m:=⟨by omega,fun _=>by omega,fun _=>by omega,.inl ⟨rfl,h⟩,.inl ⟨rfl,h⟩⟩
theorem zv6 {l:List AtomD} {a m b mid:Nat} (hmb:m < b) (h:mid < m):SymInv l a m b mid (mid+m - b) mid:=⟨by omega,fun _=>by omega,fun _=>by omega,.inr (.inl ⟨h,rfl⟩),.inr (.inl ⟨h,rfl⟩)⟩
theorem ztC {l:List AtomD} {a m b mid s r c:Nat} (h:SymInv l a m b mid s r) (h1:s≤c) (h2:c < r) (hc:¬ cmpD (l.getD (mid+m - 1 - c) noAtomD) (l.getD c noAtomD) < 0):SymInv l a m b mid (c+1) r:=by
 refine ⟨by omega,fun g=>?_,fun g=>?_,.inr (.inr ?_),h.cr⟩
 ·have:=h.le1 g;omega
 ·have:=h.le2 g;omega
 ·rw [Nat.add_sub_cancel,show mid+m - (c+1)=mid+m - 1 - c by omega]
  exact zgV hc
theorem zoP {l:List AtomD} {a m b mid s r c:Nat} (h:SymInv l a m b mid s r) (h1:s≤c) (h2:c < r) (hc:cmpD (l.getD (mid+m - 1 - c) noAtomD) (l.getD c noAtomD) < 0):SymInv l a m b mid s c:=by
 refine ⟨h1,fun g=>?_,fun g=>?_,h.cl,.inr (.inr hc)⟩
 ·have:=h.le1 g;omega
 ·have:=h.le2 g;omega
theorem zkj {l:List AtomD} {a m b mid s:Nat} (h:SymInv l a m b mid s s) (ham:a < m) (hmb:m < b) (hm1:2*mid≤a+b) (hm2:a+b≤2*mid+1):SplitS l a m b mid s:=by
 obtain ⟨sr,le1,le2,cl,cr⟩:=h
 rcases Nat.lt_or_ge mid m with g|g
 ·obtain ⟨f1,f2⟩:=le2 g
  refine ⟨by omega,by omega,f2,by omega,by omega,?_,?_⟩
  ·rcases cl with ⟨e,_⟩|⟨_,e⟩|e
   ·exact .inl e
   ·exact .inr (.inl (by omega))
   ·exact .inr (.inr e)
  ·rcases cr with ⟨e,_⟩|⟨_,e⟩|e
   ·exact .inl e
   ·exact .inr (.inl e)
   ·exact .inr (.inr e)
 ·obtain ⟨f1,f2⟩:=le1 g
  refine ⟨f1,f2,by omega,by omega,by omega,?_,?_⟩
  ·rcases cl with ⟨e,_⟩|⟨_,e⟩|e
   ·exact .inl e
   ·exact .inr (.inl (by omega))
   ·exact .inr (.inr e)
  ·rcases cr with ⟨e,_⟩|⟨_,e⟩|e
   ·exact .inl e
   ·exact .inr (.inl e)
   ·exact .inr (.inr e)
theorem ztB {l:List AtomD} {a m b mid s r c:Nat} (h:SymInv l a m b mid s r) (h1:s≤c) (h2:c < r) (ham:a < m) (hmb:m < b) (hm1:2*mid≤a+b) (hm2:a+b≤2*mid+1):c+1≤m∧m≤mid+m - 1 - c∧mid+m - 1 - c < b∧c+1≤mid+m:=by
 rcases Nat.lt_or_ge mid m with g|g
 ·obtain ⟨f1,f2⟩:=h.le2 g
  omega
 ·obtain ⟨f1,f2⟩:=h.le1 g
  omega
theorem zdO {l l':List AtomD} {a b:Nat} (h:zaG l a b) (he:∀ k,a≤k→k < b→l'.getD k noAtomD=l.getD k noAtomD):zaG l' a b:=by
 intro k h1 h2
 rw [he k (by omega) h2,he (k - 1) (by omega) (by omega)]
 exact h k h1 h2
theorem zvP {l:List AtomD} {s m e:Nat} (hs:s≤m) (he:m≤e) (hl:e≤l.length):l=l.take s++((l.take m).drop s++((l.take e).drop m++l.drop e)):=by
 apply List.ext_getElem?
 intro k
 simp only [List.getElem?_append,List.length_take,List.length_drop,List.getElem?_take,List.getElem?_drop]
 repeat' split
 all_goals first|rfl|(exfalso;omega)|(congr 1;omega)
theorem zzA {l l1:List AtomD} {s m e:Nat} (t:zlz l l1 s m e) (hs:s≤m) (he:m≤e) (hl:e≤l.length) (hlen:l1.length=l.length):l1=l.take s++((l.take e).drop m++((l.take m).drop s++l.drop e)):=by
 refine zkQ (by simp only [List.length_append,List.length_take,List.length_drop];omega) (fun k=>?_)
 rw [t k]
 simp only [List.getD_eq_getElem?_getD,List.getElem?_append,List.length_take,List.length_drop,List.getElem?_take,List.getElem?_drop]
 repeat' split
 all_goals first|rfl|(exfalso;omega)|(congr 2;omega)
theorem zuv {l l1:List AtomD} {s m e:Nat} (t:zlz l l1 s m e) (hs:s≤m) (he:m≤e) (hl:e≤l.length) (hlen:l1.length=l.length) (hne:∀ i j,s≤i→i < m→m≤j→j < e→zaP (l.getD i noAtomD)≠zaP (l.getD j noAtomD)):Stab l l1:=by
 intro x
 rw [zzA t hs he hl hlen]
 conv=>rhs;rw [zvP hs he hl]
 simp only [List.filter_append]
 by_cases hu:((l.take m).drop s).filter (fun y=>zaP y == x)=[]
 ·rw [hu]
  simp
 ·have hv:((l.take e).drop m).filter (fun y=>zaP y == x)=[]:=by
   rw [List.filter_eq_nil_iff]
   intro y hy hyx
   apply hu
   rw [List.filter_eq_nil_iff]
   intro z hz hzx
   obtain ⟨j,hj⟩:=List.getElem?_of_mem hy
   obtain ⟨i,hi⟩:=List.getElem?_of_mem hz
   rw [List.getElem?_drop,List.getElem?_take] at hj hi
   split at hj
   ·split at hi
    ·rename_i g1 g2
     refine hne (s+i) (m+j) (by omega) g2 (by omega) g1 ?_
     rw [List.getD_eq_getElem?_getD,List.getD_eq_getElem?_getD,hj,hi]
     simp only [Option.getD_some]
     rw [beq_iff_eq] at hyx hzx
     rw [hyx,hzx]
    ·cases hi
   ·cases hj
  rw [hv]
  simp
theorem zq6 {l l1:List AtomD} {a m b mid s:Nat} (h1:zaG l a m) (h2:zaG l m b) (p:SplitS l a m b mid s) (t:zlz l l1 s m (mid+m - s)) (hb:b≤l.length) (hlen:l1.length=l.length):Stab l l1:=by
 obtain ⟨lo,hi,him,ge,le,cl,cr⟩:=p
 refine zuv t hi ge (by omega) hlen (fun i j g1 g2 g3 g4 e=>?_)
 rcases cr with cr|cr|cr
 ·omega
 ·omega
 ·have f1:=zbC h2 (i:=j) (j:=mid+m - 1 - s) g3 (by omega) (by omega)
  have f2:=zbC h1 (i:=s) (j:=i) lo g1 g2
  exact zfD (zdZ (zgW f1 cr) f2) e.symm
theorem zuA {l l1:List AtomD} {a b i k:Nat} (h2:zaG l (a+1) b) (hib:i≤b) (hl:i=a+1∨cmpD (l.getD (i - 1) noAtomD) (l.getD a noAtomD) < 0) (hak:a≤k) (hk:k < i - 1) (u:UpTo l l1 a k):cmpD (l1.getD (k+1) noAtomD) (l1.getD k noAtomD) < 0:=by
 rw [u,u,if_neg (by omega),if_neg (by omega),if_neg (by omega),if_pos rfl]
 rcases hl with hl|hl
 ·omega
 ·exact zgW (zbC h2 (i:=k+1) (j:=i - 1) (by omega) (by omega) (by omega)) hl
theorem znN {l l1:List AtomD} {a m i k:Nat} (h1:zaG l a m) (hai:a≤i) (hr:i=m∨cmpD (l.getD m noAtomD) (l.getD i noAtomD) < 0) (hik:i < k) (hkm:k≤m) (u:zlw l l1 m k):cmpD (l1.getD k noAtomD) (l1.getD (k - 1) noAtomD) < 0:=by
 rw [u,u,if_pos rfl,if_neg (by omega),if_neg (by omega)]
 rcases hr with hr|hr
 ·omega
 ·exact zdZ hr (zbC h1 (i:=i) (j:=k - 1) hai (by omega) (by omega))
end Go.Am
namespace Go.Am
theorem zkB {P:Program} {T:Tab} {t:TypeId} {k:IntKind} {a b:Int}:binA P T .mul t (.int k a) (.int k b)=some (.int k (k.wrap (a*b))):=by
 have h1:((T.desc t).bind fun d=>zl3 d (.int k a) (.int k b))=none:=by
  cases T.desc t with
  |none=>rfl
  |some d=>cases d <;> rfl
 have h2:zaJ P (binOp .mul t (.int k a) (.int k b))=some (.int k (k.wrap (a*b))):=by
  simp [binOp,Op.intArith,zdT]
 unfold binA
 have hf:zb8 .mul (.int k a) (.int k b)=none:=rfl
 rw [hf]
 simp [h1,h2]
 exact ⟨⟨rfl,rfl⟩,rfl⟩
theorem zoh {w s a:Nat} (h1:s % w=0) (h2:a % w=0) (h:s < a):s+w≤a:=by
 obtain ⟨i,rfl⟩:=Nat.dvd_of_mod_eq_zero h1
 obtain ⟨j,rfl⟩:=Nat.dvd_of_mod_eq_zero h2
 have hij:i < j:=Nat.lt_of_mul_lt_mul_left h
 rw [show w*i+w=w*(i+1) from (Nat.mul_succ w i).symm]
 exact Nat.mul_le_mul_left w hij
def Bl (l:List AtomD) (w n a:Nat):Prop:=∀ s,s % w=0→s < a→zaG l s (min (s+w) n)
theorem zny {l l':List AtomD} {w n a:Nat} (h:Bl l w n a) (ha:a % w=0) (hs:zaG l' a (min (a+w) n)) (ho:zfV l l' a (min (a+w) n)) (b:Nat) (hb:b≤a+w):Bl l' w n b:=by
 intro s h1 h2
 rcases Nat.lt_trichotomy s a with g|g|g
 ·have:=zoh h1 ha g
  exact zdO (h s h1 g) (fun k _ _=>ho k (.inl (by omega)))
 ·subst g
  exact hs
 ·have:=zoh ha h1 g
  omega
theorem zzX {l:List AtomD} {w n:Nat} (h:Bl l w n n) (hw:n≤w):zaG l 0 n:=by
 intro k h1 h2
 exact h 0 (Nat.zero_mod _) (by omega) k h1 (by omega)
structure Dbl (l:List AtomD) (w n a:Nat):Prop where
 lo:Bl l (2*w) n a
 hi:∀ s,s % w=0→a≤s→s < n→zaG l s (min (s+w) n)
theorem zrZ {l:List AtomD} {w n:Nat} (h:Bl l w n n):Dbl l w n 0:=⟨fun s _ g=>absurd g (by omega),fun s h1 _ h2=>h s h1 h2⟩
theorem zsI {w a:Nat} (h:a % (2*w)=0):a % w=0∧(a+w) % w=0:=by
 obtain ⟨i,rfl⟩:=Nat.dvd_of_mod_eq_zero h
 have h1:2*w*i % w=0:=by rw [show 2*w*i=w*(2*i) by rw [Nat.mul_comm 2 w,Nat.mul_assoc]];exact Nat.mul_mod_right _ _
 exact ⟨h1,by rw [Nat.add_mod_right];exact h1⟩
theorem zlT {l:List AtomD} {w n a:Nat} (h:Dbl l w n a) (hw:0 < w) (ha:a % (2*w)=0) (hn:a+w < n):zaG l a (a+w)∧zaG l (a+w) (min (a+2*w) n):=by
 have:=zsI ha
 have g1:=h.hi a this.1 (by omega) (by omega)
 have g2:=h.hi (a+w) this.2 (by omega) hn
 rw [show min (a+w) n=a+w by omega] at g1
 rw [show min (a+w+w) n=min (a+2*w) n by omega] at g2
 exact ⟨g1,g2⟩
theorem zpb {l l':List AtomD} {w n a:Nat} (h:Dbl l w n a) (hw:0 < w) (ha:a % (2*w)=0) (hs:zaG l' a (min (a+2*w) n)) (hm:Mv l l' a (min (a+2*w) n)):Dbl l' w n (min (a+2*w) n):=by
 refine ⟨zny h.lo ha hs hm.out _ (by omega),fun s h1 h2 h3=>?_⟩
 exact zdO (h.hi s h1 (by omega) h3) (fun k _ _=>hm.out k (.inr (by omega)))
theorem zyp {l:List AtomD} {w n a:Nat} (h:Dbl l w n a) (hw:0 < w) (ha:a % (2*w)=0) (hn:n≤a+w):Bl l (2*w) n n:=by
 intro s h1 h2
 rcases Nat.lt_trichotomy s a with g|g|g
 ·exact h.lo s h1 g
 ·subst g
  have:=h.hi s (zsI ha).1 (by omega) h2
  rw [show min (s+w) n=min (s+2*w) n by omega] at this
  exact this
 ·have:=zoh ha h1 g
  omega
theorem zyo {l:List AtomD} {w n a:Nat} (h:Dbl l w n a) (hn:n≤a):Bl l (2*w) n n:=fun s h1 h2=>h.lo s h1 (by omega)
end Go.Am
