/- Merging in place: plain facts. No condition. -/
import Derived.Test.YtkgojconmeeegaaGreatDoorG12
set_option linter.unusedSimpArgs false
set_option linter.unusedVariables false
namespace Go.Am
theorem JN (a:ab):aQ a a=0:=RQ _
theorem TB {a b c:ab} (h1:aQ a b≤0) (h2:aQ b c < 0):aQ a c < 0:=by
 by_cases h:aQ a c < 0
 ·exact h
 ·have h3:=Hz (J1 h) h1
  have h4:=vx b c
  omega
theorem Rq {a b c:ab} (h1:aQ a b < 0) (h2:aQ b c≤0):aQ a c < 0:=by
 by_cases h:aQ a c < 0
 ·exact h
 ·have h3:=Hz h2 (J1 h)
  have h4:=vx a b
  omega
theorem xS {l:List ab} {a b:Nat} (h:gY l a b) {i j:Nat} (hi:a≤i) (di:i≤j) (hj:j < b):aQ (l.getD i aj) (l.getD j aj)≤0:=by
 induction j with
 |zero =>
  have:i=0:=by omega
  subst this
  rw [JN]
  exact Int.le_refl _
 |succ j ih =>
  by_cases e:i=j+1
  ·subst e
   rw [JN]
   exact Int.le_refl _
  ·exact Hz (ih (by omega) (by omega)) (h (j+1) (by omega) hj)
structure Mv (l l':List ab) (a b:Nat):Prop where
 perm:l'.Perm l
 out:HL l l' a b
 Pw:∀ i,a≤i→i < b→∃ j,a≤j∧j < b∧l'.getD i aj=l.getD j aj
 xK:eV l l'
theorem Mv.refl (l:List ab) (a b:Nat):Mv l l a b:=⟨List.Perm.refl _,fun _ _=>rfl,fun i h1 h2=>⟨i,h1,h2,rfl⟩,eV.refl l⟩
theorem Mv.trans {l l1 l2:List ab} {a b:Nat} (x:Mv l l1 a b) (y:Mv l1 l2 a b):Mv l l2 a b:=⟨y.perm.trans x.perm,fun k hk=>(y.out k hk).trans (x.out k hk),fun i h1 h2=>by
 obtain ⟨j,g1,g2,g3⟩:=y.Pw i h1 h2
 obtain ⟨k,f1,f2,f3⟩:=x.Pw j g1 g2
 exact ⟨k,f1,f2,g3.trans f3⟩,x.xK.trans y.xK⟩
theorem Mv.xO {l l':List ab} {a b a' b':Nat} (x:Mv l l' a b) (ha:a'≤a) (hb:b≤b'):Mv l l' a' b':=⟨x.perm,fun k hk=>x.out k (by omega),fun i h1 h2=>by
 by_cases h:a≤i∧i < b
 ·obtain ⟨j,g1,g2,g3⟩:=x.Pw i h.1 h.2
  exact ⟨j,by omega,by omega,g3⟩
 ·exact ⟨i,h1,h2,x.out i (by omega)⟩,x.xK⟩
theorem Mv.swap {l:List ab} {a b i j:Nat} (hi:a≤i∧i < b) (hj:a≤j∧j < b) (hb:b≤l.length) (hs:eV l (kO l i j)):Mv l (kO l i j) a b:=by
 have g:=fun k=>En (l:=l) (i:=i) (j:=j) (by omega) (by omega) k
 refine ⟨TO (by omega) (by omega),fun k hk=>?_,fun k h1 h2=>?_,hs⟩
 ·rw [g,if_neg (by omega),if_neg (by omega)]
 ·rw [g]
  split
  ·exact ⟨i,by omega,by omega,rfl⟩
  ·split
   ·exact ⟨j,by omega,by omega,rfl⟩
   ·exact ⟨k,h1,h2,rfl⟩
def EL (l l1:List ab) (s m e:Nat):Prop:=∀ k,l1.getD k aj=if s≤k∧k < e then (if k < s+(e - m) then l.getD (k+(m - s)) aj else l.getD (k - (e - m)) aj) else l.getD k aj
theorem zEg {l:List ab} {s m e:Nat} (hs:s≤m) (he:m≤e) (h:s=m∨m=e):EL l l s m e:=by
 intro k
 repeat' split
 all_goals first|rfl|(exfalso;omega)|(congr 1;omega)
theorem zEf {l l1:List ab} {s m e:Nat} (h:EL l l1 s m e) (hs:s≤m) (he:m≤e) (hp:l1.Perm l) (ez:eV l l1):Mv l l1 s e:=by
 refine ⟨hp,fun k hk=>?_,fun k h1 h2=>?_,ez⟩
 ·rw [h,if_neg (by omega)]
 ·rw [h,if_pos ⟨h1,h2⟩]
  split
  ·exact ⟨k+(m - s),by omega,by omega,rfl⟩
  ·exact ⟨k - (e - m),by omega,by omega,rfl⟩
theorem zGg {l l':List ab} {a b i:Nat} (h2:gY l (a+1) b) (YD:a+1≤i) (Th:i≤b) (hl:i=a+1∨aQ (l.getD (i - 1) aj) (l.getD a aj) < 0) (hr:i=b∨¬ aQ (l.getD i aj) (l.getD a aj) < 0)
 (Ox:∀ x,l'.getD x aj=if a≤x∧x < i - 1 then l.getD (x+1) aj else if x=i - 1 then l.getD a aj else l.getD x aj):gY l' a b:=by
 intro p h1 h3
 rw [Ox,Ox]
 by_cases c1:p < i - 1
 ·rw [if_pos (by omega),if_pos (by omega)]
  have:=h2 (p+1) (by omega) (by omega)
  rw [Nat.add_sub_cancel] at this
  rw [show p - 1+1=p by omega]
  exact this
 ·by_cases c2:p=i - 1
  ·subst c2
   rw [if_pos (by omega),if_neg (by omega),if_pos rfl,show i - 1 - 1+1=i - 1 by omega]
   rcases hl with hl|hl
   ·omega
   ·exact Int.le_of_lt hl
  ·by_cases c3:p=i
   ·subst c3
    rw [if_neg (by omega),if_pos rfl,if_neg (by omega),if_neg (by omega)]
    rcases hr with hr|hr
    ·omega
    ·exact J1 hr
   ·rw [if_neg (by omega),if_neg (by omega),if_neg (by omega),if_neg (by omega)]
    exact h2 p (by omega) h3
theorem zy7 {l l':List ab} {a m i:Nat} (h1:gY l a m) (Td:a≤i) (tT:i≤m) (hl:i=a∨¬ aQ (l.getD m aj) (l.getD (i - 1) aj) < 0) (hr:i=m∨aQ (l.getD m aj) (l.getD i aj) < 0)
 (Ox:∀ x,l'.getD x aj=if x=i then l.getD m aj else if i < x∧x≤m then l.getD (x - 1) aj else l.getD x aj):gY l' a (m+1):=by
 intro p h2 h3
 rw [Ox,Ox]
 by_cases c1:p < i
 ·rw [if_neg (by omega),if_neg (by omega),if_neg (by omega),if_neg (by omega)]
  exact h1 p h2 (by omega)
 ·by_cases c2:p=i
  ·subst c2
   rw [if_neg (by omega),if_neg (by omega),if_pos rfl]
   rcases hl with hl|hl
   ·omega
   ·exact J1 hl
  ·by_cases c3:p=i+1
   ·subst c3
    rw [if_pos (by omega),if_neg (by omega),if_pos (by omega),Nat.add_sub_cancel]
    rcases hr with hr|hr
    ·omega
    ·exact Int.le_of_lt hr
   ·rw [if_neg (by omega),if_pos (by omega),if_neg (by omega),if_pos (by omega)]
    exact h1 (p - 1) (by omega) (by omega)
structure oH (l:List ab) (a m b mid s:Nat):Prop where
 lo:a≤s
 hi:s≤m
 tT:s≤mid
 ge:m≤mid+m - s
 le:mid+m - s≤b
 cl:s=a∨mid+m - s=b∨aQ (l.getD (s - 1) aj) (l.getD (mid+m - s) aj)≤0
 cr:s=m∨s=mid∨aQ (l.getD (mid+m - 1 - s) aj) (l.getD s aj) < 0
theorem zqR {l l1:List ab} {a m b mid s:Nat} (h1:gY l a m) (h2:gY l m b) (p:oH l a m b mid s) (t:EL l l1 s m (mid+m - s)) :
 gY l1 a s∧gY l1 s mid∧gY l1 mid (mid+m - s)∧gY l1 (mid+m - s) b:=by
 obtain ⟨lo,hi,tT,ge,le,cl,cr⟩:=p
 refine ⟨fun k g1 g2=>?_,fun k g1 g2=>?_,fun k g1 g2=>?_,fun k g1 g2=>?_⟩
 ·rw [t,t,if_neg (by omega),if_neg (by omega)]
  exact h1 k g1 (by omega)
 ·rw [t,t,if_pos (by omega),if_pos (by omega),if_pos (by omega),if_pos (by omega),show k - 1+(m - s)=k+(m - s) - 1 by omega]
  exact h2 _ (by omega) (by omega)
 ·rw [t,t,if_pos (by omega),if_neg (by omega),if_pos (by omega),if_neg (by omega),show k - 1 - (mid+m - s - m)=k - (mid+m - s - m) - 1 by omega]
  exact h1 _ (by omega) (by omega)
 ·rw [t,t,if_neg (by omega),if_neg (by omega)]
  exact h2 k (by omega) g2
theorem zqQ {l l1:List ab} {a m b mid s:Nat} (h1:gY l a m) (h2:gY l m b) (p:oH l a m b mid s) (t:EL l l1 s m (mid+m - s)) {i j:Nat} (hi:a≤i) (tT:i < mid) (hj:mid≤j) (Yi:j < b) :
 aQ (l1.getD i aj) (l1.getD j aj)≤0:=by
 obtain ⟨lo,vj,arR,ge,le,cl,cr⟩:=p
 rw [t,t]
 by_cases c1:s≤i
 ·-- from behind m
  rw [if_pos (by omega),if_pos (by omega)]
  by_cases c2:j < mid+m - s
  ·rw [if_pos (by omega),if_neg (by omega)]
   rcases cr with cr|cr|cr
   ·omega
   ·omega
   ·exact Hz (xS h2 (i:=i+(m - s)) (j:=mid+m - 1 - s) (by omega) (by omega) (by omega)) (Hz (Int.le_of_lt cr) (xS h1 (i:=s) (by omega) (by omega) (by omega)))
  ·rw [if_neg (by omega)]
   exact xS h2 (by omega) (by omega) Yi
 ·rw [if_neg (by omega)]
  by_cases c2:j < mid+m - s
  ·rw [if_pos (by omega),if_neg (by omega)]
   exact xS h1 hi (by omega) (by omega)
  ·rw [if_neg (by omega)]
   rcases cl with cl|cl|cl
   ·omega
   ·omega
   ·exact Hz (xS h1 (i:=i) (j:=s - 1) hi (by omega) (by omega)) (Hz cl (xS h2 (i:=mid+m - s) (by omega) (by omega) Yi))
theorem zoi {l1 l2 l3:List ab} {a mid b:Nat} (hc:∀ i j,a≤i→i < mid→mid≤j→j < b→aQ (l1.getD i aj) (l1.getD j aj)≤0) (x:Mv l1 l2 a mid) (y:Mv l2 l3 mid b) (h2:gY l2 a mid) (h3:gY l3 mid b):gY l3 a b:=by
 intro p h4 h5
 by_cases c1:p < mid
 ·rw [y.out _ (.inl (by omega)),y.out _ (.inl c1)]
  exact h2 p h4 c1
 ·by_cases c2:p=mid
  ·subst c2
   obtain ⟨j,g1,g2,g3⟩:=y.Pw p (by omega) h5
   obtain ⟨i,f1,f2,f3⟩:=x.Pw (p - 1) (by omega) (by omega)
   rw [y.out _ (.inl (by omega)),g3,x.out j (.inr (by omega)),f3]
   exact hc i j f1 f2 g1 g2
  ·exact h3 p (by omega) h5
def vP (l l1:List ab) (a k:Nat):Prop:=∀ x,l1.getD x aj=if a≤x∧x < k then l.getD (x+1) aj else if x=k then l.getD a aj else l.getD x aj
theorem zt8 (l:List ab) (a:Nat):vP l l a a:=by
 intro x
 repeat' split
 all_goals first|rfl|(exfalso;omega)|(congr 1;done)|(subst x;rfl)
theorem zyj {l l1:List ab} {a k:Nat} (h:vP l l1 a k) (hak:a≤k) (hk:k+1 < l1.length):vP l (kO l1 k (k+1)) a (k+1):=by
 intro x
 rw [En (by omega) (by omega),h x,h k,h (k+1)]
 repeat' split
 all_goals first|rfl|(exfalso;omega)|(congr 1;omega)
def Sf (l l1:List ab) (m k:Nat):Prop:=∀ x,l1.getD x aj=if x=k then l.getD m aj else if k < x∧x≤m then l.getD (x - 1) aj else l.getD x aj
theorem znz (l:List ab) (m:Nat):Sf l l m m:=by
 intro x
 repeat' split
 all_goals first|rfl|(exfalso;omega)|(subst x;rfl)
theorem zpN {l l1:List ab} {m k:Nat} (h:Sf l l1 m k) (sK:0 < k) (hkm:k≤m) (hm:m < l1.length):Sf l (kO l1 k (k - 1)) m (k - 1):=by
 intro x
 rw [En (by omega) (by omega),h x,h k,h (k - 1)]
 repeat' split
 all_goals first|rfl|(exfalso;omega)|(congr 1;omega)
structure ig (l:List ab) (a m b mid s r:Nat):Prop where
 sr:s≤r
 I9:m≤mid→a≤s∧r≤m
 Ja:mid < m→mid+m - b≤s∧r≤mid
 cl:(s=a∧m≤mid)∨(mid < m∧s=mid+m - b)∨aQ (l.getD (s - 1) aj) (l.getD (mid+m - s) aj)≤0
 cr:(r=m∧m≤mid)∨(mid < m∧r=mid)∨aQ (l.getD (mid+m - 1 - r) aj) (l.getD r aj) < 0
theorem zC7 {l:List ab} {a m b mid:Nat} (zT:a < m) (h:m≤mid):ig l a m b mid a m:=⟨by omega,fun _=>by omega,fun _=>by omega,.inl ⟨rfl,h⟩,.inl ⟨rfl,h⟩⟩
theorem zC8 {l:List ab} {a m b mid:Nat} (Ai:m < b) (h:mid < m):ig l a m b mid (mid+m - b) mid:=⟨by omega,fun _=>by omega,fun _=>by omega,.inr (.inl ⟨h,rfl⟩),.inr (.inl ⟨h,rfl⟩)⟩
theorem zwG {l:List ab} {a m b mid s r c:Nat} (h:ig l a m b mid s r) (h1:s≤c) (h2:c < r) (hc:¬ aQ (l.getD (mid+m - 1 - c) aj) (l.getD c aj) < 0):ig l a m b mid (c+1) r:=by
 refine ⟨by omega,fun g=>?_,fun g=>?_,.inr (.inr ?_),h.cr⟩
 ·have:=h.I9 g;omega
 ·have:=h.Ja g;omega
 ·rw [Nat.add_sub_cancel,show mid+m - (c+1)=mid+m - 1 - c by omega]
  exact J1 hc
theorem zqY {l:List ab} {a m b mid s r c:Nat} (h:ig l a m b mid s r) (h1:s≤c) (h2:c < r) (hc:aQ (l.getD (mid+m - 1 - c) aj) (l.getD c aj) < 0):ig l a m b mid s c:=by
 refine ⟨h1,fun g=>?_,fun g=>?_,h.cl,.inr (.inr hc)⟩
 ·have:=h.I9 g;omega
 ·have:=h.Ja g;omega
theorem zlz {l:List ab} {a m b mid s:Nat} (h:ig l a m b mid s s) (zT:a < m) (Ai:m < b) (iL:2*mid≤a+b) (jX:a+b≤2*mid+1):oH l a m b mid s:=by
 obtain ⟨sr,I9,Ja,cl,cr⟩:=h
 rcases Nat.lt_or_ge mid m with g|g
 ·obtain ⟨f1,f2⟩:=Ja g
  refine ⟨by omega,by omega,f2,by omega,by omega,?_,?_⟩
  ·rcases cl with ⟨e,_⟩|⟨_,e⟩|e
   ·exact .inl e
   ·exact .inr (.inl (by omega))
   ·exact .inr (.inr e)
  ·rcases cr with ⟨e,_⟩|⟨_,e⟩|e
   ·exact .inl e
   ·exact .inr (.inl e)
   ·exact .inr (.inr e)
 ·obtain ⟨f1,f2⟩:=I9 g
  refine ⟨f1,f2,by omega,by omega,by omega,?_,?_⟩
  ·rcases cl with ⟨e,_⟩|⟨_,e⟩|e
   ·exact .inl e
   ·exact .inr (.inl (by omega))
   ·exact .inr (.inr e)
  ·rcases cr with ⟨e,_⟩|⟨_,e⟩|e
   ·exact .inl e
   ·exact .inr (.inl e)
   ·exact .inr (.inr e)
theorem zwF {l:List ab} {a m b mid s r c:Nat} (h:ig l a m b mid s r) (h1:s≤c) (h2:c < r) (zT:a < m) (Ai:m < b) (iL:2*mid≤a+b) (jX:a+b≤2*mid+1):c+1≤m∧m≤mid+m - 1 - c∧mid+m - 1 - c < b∧c+1≤mid+m:=by
 rcases Nat.lt_or_ge mid m with g|g
 ·obtain ⟨f1,f2⟩:=h.Ja g
  omega
 ·obtain ⟨f1,f2⟩:=h.I9 g
  omega
theorem WX {l l':List ab} {a b:Nat} (h:gY l a b) (he:∀ k,a≤k→k < b→l'.getD k aj=l.getD k aj):gY l' a b:=by
 intro k h1 h2
 rw [he k (by omega) h2,he (k - 1) (by omega) (by omega)]
 exact h k h1 h2
theorem zzL {l:List ab} {s m e:Nat} (hs:s≤m) (he:m≤e) (hl:e≤l.length):l=l.take s++((l.take m).drop s++((l.take e).drop m++l.drop e)):=by
 apply List.ext_getElem?
 intro k
 simp only [List.getElem?_append,List.length_take,List.length_drop,List.getElem?_take,List.getElem?_drop]
 repeat' split
 all_goals first|rfl|(exfalso;omega)|(congr 1;omega)
theorem zG0 {l l1:List ab} {s m e:Nat} (t:EL l l1 s m e) (hs:s≤m) (he:m≤e) (hl:e≤l.length) (hlen:l1.length=l.length):l1=l.take s++((l.take e).drop m++((l.take m).drop s++l.drop e)):=by
 refine Uj (by simp only [List.length_append,List.length_take,List.length_drop];omega) (fun k=>?_)
 rw [t k]
 simp only [List.getD_eq_getElem?_getD,List.getElem?_append,List.length_take,List.length_drop,List.getElem?_take,List.getElem?_drop]
 repeat' split
 all_goals first|rfl|(exfalso;omega)|(congr 2;omega)
theorem zye {l l1:List ab} {s m e:Nat} (t:EL l l1 s m e) (hs:s≤m) (he:m≤e) (hl:e≤l.length) (hlen:l1.length=l.length) (aP:∀ i j,s≤i→i < m→m≤j→j < e→cI (l.getD i aj)≠cI (l.getD j aj)):eV l l1:=by
 intro x
 rw [zG0 t hs he hl hlen]
 conv=>rhs;rw [zzL hs he hl]
 simp only [List.filter_append]
 by_cases hu:((l.take m).drop s).filter (fun y=>cI y == x)=[]
 ·rw [hu]
  simp
 ·have hv:((l.take e).drop m).filter (fun y=>cI y == x)=[]:=by
   rw [List.filter_eq_nil_iff]
   intro y hy xu
   apply hu
   rw [List.filter_eq_nil_iff]
   intro z hz YT
   obtain ⟨j,hj⟩:=List.getElem?_of_mem hy
   obtain ⟨i,hi⟩:=List.getElem?_of_mem hz
   rw [List.getElem?_drop,List.getElem?_take] at hj hi
   split at hj
   ·split at hi
    ·rename_i g1 g2
     refine aP (s+i) (m+j) (by omega) g2 (by omega) g1 ?_
     rw [List.getD_eq_getElem?_getD,List.getD_eq_getElem?_getD,hj,hi]
     simp only [Option.getD_some]
     rw [beq_iff_eq] at xu YT
     rw [xu,YT]
    ·cases hi
   ·cases hj
  rw [hv]
  simp
theorem ztK {l l1:List ab} {a m b mid s:Nat} (h1:gY l a m) (h2:gY l m b) (p:oH l a m b mid s) (t:EL l l1 s m (mid+m - s)) (hb:b≤l.length) (hlen:l1.length=l.length):eV l l1:=by
 obtain ⟨lo,hi,tT,ge,le,cl,cr⟩:=p
 refine zye t hi ge (by omega) hlen (fun i j g1 g2 g3 g4 e=>?_)
 rcases cr with cr|cr|cr
 ·omega
 ·omega
 ·have f1:=xS h2 (i:=j) (j:=mid+m - 1 - s) g3 (by omega) (by omega)
  have f2:=xS h1 (i:=s) (j:=i) lo g1 g2
  exact J0 (Rq (TB f1 cr) f2) e.symm
theorem zyk {l l1:List ab} {a b i k:Nat} (h2:gY l (a+1) b) (Th:i≤b) (hl:i=a+1∨aQ (l.getD (i - 1) aj) (l.getD a aj) < 0) (hak:a≤k) (hk:k < i - 1) (u:vP l l1 a k):aQ (l1.getD (k+1) aj) (l1.getD k aj) < 0:=by
 rw [u,u,if_neg (by omega),if_neg (by omega),if_neg (by omega),if_pos rfl]
 rcases hl with hl|hl
 ·omega
 ·exact TB (xS h2 (i:=k+1) (j:=i - 1) (by omega) (by omega) (by omega)) hl
theorem zpO {l l1:List ab} {a m i k:Nat} (h1:gY l a m) (Td:a≤i) (hr:i=m∨aQ (l.getD m aj) (l.getD i aj) < 0) (tS:i < k) (hkm:k≤m) (u:Sf l l1 m k):aQ (l1.getD k aj) (l1.getD (k - 1) aj) < 0:=by
 rw [u,u,if_pos rfl,if_neg (by omega),if_neg (by omega)]
 rcases hr with hr|hr
 ·omega
 ·exact Rq hr (xS h1 (i:=i) (j:=k - 1) Td (by omega) (by omega))
end Go.Am
namespace Go.Am
theorem Xv {P:Program} {T:bK} {t:TypeId} {k:IntKind} {a b:Int}:cw P T .mul t (.int k a) (.int k b)=some (.int k (k.wrap (a*b))):=by
 have h1:((T.desc t).bind fun d=>EO d (.int k a) (.int k b))=none:=by
  cases T.desc t with
  |none=>rfl
  |some d=>cases d <;> rfl
 have h2:iH P (binOp .mul t (.int k a) (.int k b))=some (.int k (k.wrap (a*b))):=by
  simp [binOp,Op.intArith,za]
 unfold cw
 have hf:rp .mul (.int k a) (.int k b)=none:=rfl
 rw [hf]
 simp [h1,h2]
 exact ⟨⟨rfl,rfl⟩,rfl⟩
theorem UX {w s a:Nat} (h1:s % w=0) (h2:a % w=0) (h:s < a):s+w≤a:=by
 obtain ⟨i,rfl⟩:=Nat.dvd_of_mod_eq_zero h1
 obtain ⟨j,rfl⟩:=Nat.dvd_of_mod_eq_zero h2
 have di:i < j:=Nat.lt_of_mul_lt_mul_left h
 rw [show w*i+w=w*(i+1) from (Nat.mul_succ w i).symm]
 exact Nat.mul_le_mul_left w di
def Bl (l:List ab) (w n a:Nat):Prop:=∀ s,s % w=0→s < a→gY l s (min (s+w) n)
theorem UM {l l':List ab} {w n a:Nat} (h:Bl l w n a) (ha:a % w=0) (hs:gY l' a (min (a+w) n)) (ho:HL l l' a (min (a+w) n)) (b:Nat) (hb:b≤a+w):Bl l' w n b:=by
 intro s h1 h2
 rcases Nat.lt_trichotomy s a with g|g|g
 ·have:=UX h1 ha g
  exact WX (h s h1 g) (fun k _ _=>ho k (.inl (by omega)))
 ·subst g
  exact hs
 ·have:=UX ha h1 g
  omega
theorem zHr {l:List ab} {w n:Nat} (h:Bl l w n n) (hw:n≤w):gY l 0 n:=by
 intro k h1 h2
 exact h 0 (Nat.zero_mod _) (by omega) k h1 (by omega)
structure EV (l:List ab) (w n a:Nat):Prop where
 lo:Bl l (2*w) n a
 hi:∀ s,s % w=0→a≤s→s < n→gY l s (min (s+w) n)
theorem zuM {l:List ab} {w n:Nat} (h:Bl l w n n):EV l w n 0:=⟨fun s _ g=>absurd g (by omega),fun s h1 _ h2=>h s h1 h2⟩
theorem zvB {w a:Nat} (h:a % (2*w)=0):a % w=0∧(a+w) % w=0:=by
 obtain ⟨i,rfl⟩:=Nat.dvd_of_mod_eq_zero h
 have h1:2*w*i % w=0:=by rw [show 2*w*i=w*(2*i) by rw [Nat.mul_comm 2 w,Nat.mul_assoc]];exact Nat.mul_mod_right _ _
 exact ⟨h1,by rw [Nat.add_mod_right];exact h1⟩
theorem znu {l:List ab} {w n a:Nat} (h:EV l w n a) (hw:0 < w) (ha:a % (2*w)=0) (hn:a+w < n):gY l a (a+w)∧gY l (a+w) (min (a+2*w) n):=by
 have:=zvB ha
 have g1:=h.hi a this.1 (by omega) (by omega)
 have g2:=h.hi (a+w) this.2 (by omega) hn
 rw [show min (a+w) n=a+w by omega] at g1
 rw [show min (a+w+w) n=min (a+2*w) n by omega] at g2
 exact ⟨g1,g2⟩
theorem zrn {l l':List ab} {w n a:Nat} (h:EV l w n a) (hw:0 < w) (ha:a % (2*w)=0) (hs:gY l' a (min (a+2*w) n)) (hm:Mv l l' a (min (a+2*w) n)):EV l' w n (min (a+2*w) n):=by
 refine ⟨UM h.lo ha hs hm.out _ (by omega),fun s h1 h2 h3=>?_⟩
 exact WX (h.hi s h1 (by omega) h3) (fun k _ _=>hm.out k (.inr (by omega)))
theorem zFG {l:List ab} {w n a:Nat} (h:EV l w n a) (hw:0 < w) (ha:a % (2*w)=0) (hn:n≤a+w):Bl l (2*w) n n:=by
 intro s h1 h2
 rcases Nat.lt_trichotomy s a with g|g|g
 ·exact h.lo s h1 g
 ·subst g
  have:=h.hi s (zvB ha).1 (by omega) h2
  rw [show min (s+w) n=min (s+2*w) n by omega] at this
  exact this
 ·have:=UX ha h1 g
  omega
theorem zFF {l:List ab} {w n a:Nat} (h:EV l w n a) (hn:n≤a):Bl l (2*w) n n:=fun s h1 h2=>h.lo s h1 (by omega)
end Go.Am
