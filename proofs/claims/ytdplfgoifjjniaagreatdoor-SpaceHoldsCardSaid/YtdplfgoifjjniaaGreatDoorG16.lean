/- Merging in place: plain facts. No condition. -/
import Derived.Test.YtdplfgoifjjniaaGreatDoorG15
set_option linter.unusedSimpArgs false
set_option linter.unusedVariables false
namespace Go.Am
theorem Gf (a:ab):aM a a=0:=Ms _
theorem YQ {a b c:ab} (h1:aM a b≤0) (h2:aM b c < 0):aM a c < 0:=by
 by_cases h:aM a c < 0
 ·exact h
 ·have h3:=En (Gt h) h1
  have h4:=zI b c
  omega
theorem L6 {a b c:ab} (h1:aM a b < 0) (h2:aM b c≤0):aM a c < 0:=by
 by_cases h:aM a c < 0
 ·exact h
 ·have h3:=En h2 (Gt h)
  have h4:=zI a b
  omega
theorem vj {l:List ab} {a b:Nat} (h:gj l a b) {i j:Nat} (hi:a≤i) (dh:i≤j) (hj:j < b):aM (l.getD i ah) (l.getD j ah)≤0:=by
 induction j with
 |zero =>
  have:i=0:=by omega
  subst this
  rw [Gf]
  exact Int.le_refl _
 |succ j ih =>
  by_cases e:i=j+1
  ·subst e
   rw [Gf]
   exact Int.le_refl _
  ·exact En (ih (by omega) (by omega)) (h (j+1) (by omega) hj)
structure Mv (l l':List ab) (a b:Nat):Prop where
 perm:l'.Perm l
 out:EB l l' a b
 KD:∀ i,a≤i→i < b→∃ j,a≤j∧j < b∧l'.getD i ah=l.getD j ah
 u7:eE l l'
theorem Mv.refl (l:List ab) (a b:Nat):Mv l l a b:=⟨List.Perm.refl _,fun _ _=>rfl,fun i h1 h2=>⟨i,h1,h2,rfl⟩,eE.refl l⟩
theorem Mv.trans {l l1 l2:List ab} {a b:Nat} (x:Mv l l1 a b) (y:Mv l1 l2 a b):Mv l l2 a b:=⟨y.perm.trans x.perm,fun k hk=>(y.out k hk).trans (x.out k hk),fun i h1 h2=>by
 obtain ⟨j,g1,g2,g3⟩:=y.KD i h1 h2
 obtain ⟨k,f1,f2,f3⟩:=x.KD j g1 g2
 exact ⟨k,f1,f2,g3.trans f3⟩,x.u7.trans y.u7⟩
theorem Mv.vd {l l':List ab} {a b a' b':Nat} (x:Mv l l' a b) (ha:a'≤a) (hb:b≤b'):Mv l l' a' b':=⟨x.perm,fun k hk=>x.out k (by omega),fun i h1 h2=>by
 by_cases h:a≤i∧i < b
 ·obtain ⟨j,g1,g2,g3⟩:=x.KD i h.1 h.2
  exact ⟨j,by omega,by omega,g3⟩
 ·exact ⟨i,h1,h2,x.out i (by omega)⟩,x.u7⟩
theorem Mv.swap {l:List ab} {a b i j:Nat} (hi:a≤i∧i < b) (hj:a≤j∧j < b) (hb:b≤l.length) (hs:eE l (jM l i j)):Mv l (jM l i j) a b:=by
 have g:=fun k=>Bt (l:=l) (i:=i) (j:=j) (by omega) (by omega) k
 refine ⟨Y6 (by omega) (by omega),fun k hk=>?_,fun k h1 h2=>?_,hs⟩
 ·rw [g,if_neg (by omega),if_neg (by omega)]
 ·rw [g]
  split
  ·exact ⟨i,by omega,by omega,rfl⟩
  ·split
   ·exact ⟨j,by omega,by omega,rfl⟩
   ·exact ⟨k,h1,h2,rfl⟩
def BL (l l1:List ab) (s m e:Nat):Prop:=∀ k,l1.getD k ah=if s≤k∧k < e then (if k < s+(e - m) then l.getD (k+(m - s)) ah else l.getD (k - (e - m)) ah) else l.getD k ah
theorem zAU {l:List ab} {s m e:Nat} (hs:s≤m) (he:m≤e) (h:s=m∨m=e):BL l l s m e:=by
 intro k
 repeat' split
 all_goals first|rfl|(exfalso;omega)|(congr 1;omega)
theorem zAT {l l1:List ab} {s m e:Nat} (h:BL l l1 s m e) (hs:s≤m) (he:m≤e) (hp:l1.Perm l) (eb:eE l l1):Mv l l1 s e:=by
 refine ⟨hp,fun k hk=>?_,fun k h1 h2=>?_,eb⟩
 ·rw [h,if_neg (by omega)]
 ·rw [h,if_pos ⟨h1,h2⟩]
  split
  ·exact ⟨k+(m - s),by omega,by omega,rfl⟩
  ·exact ⟨k - (e - m),by omega,by omega,rfl⟩
theorem zCC {l l':List ab} {a b i:Nat} (h2:gj l (a+1) b) (hmi:a+1≤i) (ND:i≤b) (hl:i=a+1∨aM (l.getD (i - 1) ah) (l.getD a ah) < 0) (hr:i=b∨¬ aM (l.getD i ah) (l.getD a ah) < 0)
 (J1:∀ x,l'.getD x ah=if a≤x∧x < i - 1 then l.getD (x+1) ah else if x=i - 1 then l.getD a ah else l.getD x ah):gj l' a b:=by
 intro p h1 h3
 rw [J1,J1]
 by_cases c1:p < i - 1
 ·rw [if_pos (by omega),if_pos (by omega)]
  have:=h2 (p+1) (by omega) (by omega)
  rw [Nat.add_sub_cancel] at this
  rw [show p - 1+1=p by omega]
  exact this
 ·by_cases c2:p=i - 1
  ·subst c2
   rw [if_pos (by omega),if_neg (by omega),if_pos rfl,show i - 1 - 1+1=i - 1 by omega]
   rcases hl with hl|hl
   ·omega
   ·exact Int.le_of_lt hl
  ·by_cases c3:p=i
   ·subst c3
    rw [if_neg (by omega),if_pos rfl,if_neg (by omega),if_neg (by omega)]
    rcases hr with hr|hr
    ·omega
    ·exact Gt hr
   ·rw [if_neg (by omega),if_neg (by omega),if_neg (by omega),if_neg (by omega)]
    exact h2 p (by omega) h3
theorem zwG {l l':List ab} {a m i:Nat} (h1:gj l a m) (Nz:a≤i) (rM:i≤m) (hl:i=a∨¬ aM (l.getD m ah) (l.getD (i - 1) ah) < 0) (hr:i=m∨aM (l.getD m ah) (l.getD i ah) < 0)
 (J1:∀ x,l'.getD x ah=if x=i then l.getD m ah else if i < x∧x≤m then l.getD (x - 1) ah else l.getD x ah):gj l' a (m+1):=by
 intro p h2 h3
 rw [J1,J1]
 by_cases c1:p < i
 ·rw [if_neg (by omega),if_neg (by omega),if_neg (by omega),if_neg (by omega)]
  exact h1 p h2 (by omega)
 ·by_cases c2:p=i
  ·subst c2
   rw [if_neg (by omega),if_neg (by omega),if_pos rfl]
   rcases hl with hl|hl
   ·omega
   ·exact Gt hl
  ·by_cases c3:p=i+1
   ·subst c3
    rw [if_pos (by omega),if_neg (by omega),if_pos (by omega),Nat.add_sub_cancel]
    rcases hr with hr|hr
    ·omega
    ·exact Int.le_of_lt hr
   ·rw [if_neg (by omega),if_pos (by omega),if_neg (by omega),if_pos (by omega)]
    exact h1 (p - 1) (by omega) (by omega)
structure mY (l:List ab) (a m b mid s:Nat):Prop where
 lo:a≤s
 hi:s≤m
 rM:s≤mid
 ge:m≤mid+m - s
 le:mid+m - s≤b
 cl:s=a∨mid+m - s=b∨aM (l.getD (s - 1) ah) (l.getD (mid+m - s) ah)≤0
 cr:s=m∨s=mid∨aM (l.getD (mid+m - 1 - s) ah) (l.getD s ah) < 0
theorem zpv {l l1:List ab} {a m b mid s:Nat} (h1:gj l a m) (h2:gj l m b) (p:mY l a m b mid s) (t:BL l l1 s m (mid+m - s)) :
 gj l1 a s∧gj l1 s mid∧gj l1 mid (mid+m - s)∧gj l1 (mid+m - s) b:=by
 obtain ⟨lo,hi,rM,ge,le,cl,cr⟩:=p
 refine ⟨fun k g1 g2=>?_,fun k g1 g2=>?_,fun k g1 g2=>?_,fun k g1 g2=>?_⟩
 ·rw [t,t,if_neg (by omega),if_neg (by omega)]
  exact h1 k g1 (by omega)
 ·rw [t,t,if_pos (by omega),if_pos (by omega),if_pos (by omega),if_pos (by omega),show k - 1+(m - s)=k+(m - s) - 1 by omega]
  exact h2 _ (by omega) (by omega)
 ·rw [t,t,if_pos (by omega),if_neg (by omega),if_pos (by omega),if_neg (by omega),show k - 1 - (mid+m - s - m)=k - (mid+m - s - m) - 1 by omega]
  exact h1 _ (by omega) (by omega)
 ·rw [t,t,if_neg (by omega),if_neg (by omega)]
  exact h2 k (by omega) g2
theorem zpu {l l1:List ab} {a m b mid s:Nat} (h1:gj l a m) (h2:gj l m b) (p:mY l a m b mid s) (t:BL l l1 s m (mid+m - s)) {i j:Nat} (hi:a≤i) (rM:i < mid) (hj:mid≤j) (hjb:j < b) :
 aM (l1.getD i ah) (l1.getD j ah)≤0:=by
 obtain ⟨lo,Jy,ak0,ge,le,cl,cr⟩:=p
 rw [t,t]
 by_cases c1:s≤i
 ·-- from behind m
  rw [if_pos (by omega),if_pos (by omega)]
  by_cases c2:j < mid+m - s
  ·rw [if_pos (by omega),if_neg (by omega)]
   rcases cr with cr|cr|cr
   ·omega
   ·omega
   ·exact En (vj h2 (i:=i+(m - s)) (j:=mid+m - 1 - s) (by omega) (by omega) (by omega)) (En (Int.le_of_lt cr) (vj h1 (i:=s) (by omega) (by omega) (by omega)))
  ·rw [if_neg (by omega)]
   exact vj h2 (by omega) (by omega) hjb
 ·rw [if_neg (by omega)]
  by_cases c2:j < mid+m - s
  ·rw [if_pos (by omega),if_neg (by omega)]
   exact vj h1 hi (by omega) (by omega)
  ·rw [if_neg (by omega)]
   rcases cl with cl|cl|cl
   ·omega
   ·omega
   ·exact En (vj h1 (i:=i) (j:=s - 1) hi (by omega) (by omega)) (En cl (vj h2 (i:=mid+m - s) (by omega) (by omega) hjb))
theorem znb {l1 l2 l3:List ab} {a mid b:Nat} (hc:∀ i j,a≤i→i < mid→mid≤j→j < b→aM (l1.getD i ah) (l1.getD j ah)≤0) (x:Mv l1 l2 a mid) (y:Mv l2 l3 mid b) (h2:gj l2 a mid) (h3:gj l3 mid b):gj l3 a b:=by
 intro p h4 h5
 by_cases c1:p < mid
 ·rw [y.out _ (.inl (by omega)),y.out _ (.inl c1)]
  exact h2 p h4 c1
 ·by_cases c2:p=mid
  ·subst c2
   obtain ⟨j,g1,g2,g3⟩:=y.KD p (by omega) h5
   obtain ⟨i,f1,f2,f3⟩:=x.KD (p - 1) (by omega) (by omega)
   rw [y.out _ (.inl (by omega)),g3,x.out j (.inr (by omega)),f3]
   exact hc i j f1 f2 g1 g2
  ·exact h3 p (by omega) h5
def tk (l l1:List ab) (a k:Nat):Prop:=∀ x,l1.getD x ah=if a≤x∧x < k then l.getD (x+1) ah else if x=k then l.getD a ah else l.getD x ah
theorem zsx (l:List ab) (a:Nat):tk l l a a:=by
 intro x
 repeat' split
 all_goals first|rfl|(exfalso;omega)|(congr 1;done)|(subst x;rfl)
theorem zvZ {l l1:List ab} {a k:Nat} (h:tk l l1 a k) (hak:a≤k) (hk:k+1 < l1.length):tk l (jM l1 k (k+1)) a (k+1):=by
 intro x
 rw [Bt (by omega) (by omega),h x,h k,h (k+1)]
 repeat' split
 all_goals first|rfl|(exfalso;omega)|(congr 1;omega)
def MK (l l1:List ab) (m k:Nat):Prop:=∀ x,l1.getD x ah=if x=k then l.getD m ah else if k < x∧x≤m then l.getD (x - 1) ah else l.getD x ah
theorem zmy (l:List ab) (m:Nat):MK l l m m:=by
 intro x
 repeat' split
 all_goals first|rfl|(exfalso;omega)|(subst x;rfl)
theorem zoA {l l1:List ab} {m k:Nat} (h:MK l l1 m k) (qM:0 < k) (hkm:k≤m) (hm:m < l1.length):MK l (jM l1 k (k - 1)) m (k - 1):=by
 intro x
 rw [Bt (by omega) (by omega),h x,h k,h (k - 1)]
 repeat' split
 all_goals first|rfl|(exfalso;omega)|(congr 1;omega)
structure gp (l:List ab) (a m b mid s r:Nat):Prop where
 sr:s≤r
 FX:m≤mid→a≤s∧r≤m
 FY:mid < m→mid+m - b≤s∧r≤mid
 cl:(s=a∧m≤mid)∨(mid < m∧s=mid+m - b)∨aM (l.getD (s - 1) ah) (l.getD (mid+m - s) ah)≤0
 cr:(r=m∧m≤mid)∨(mid < m∧r=mid)∨aM (l.getD (mid+m - 1 - r) ah) (l.getD r ah) < 0
theorem zzs {l:List ab} {a m b mid:Nat} (sD:a < m) (h:m≤mid):gp l a m b mid a m:=⟨by omega,fun _=>by omega,fun _=>by omega,.inl ⟨rfl,h⟩,.inl ⟨rfl,h⟩⟩
theorem zzt {l:List ab} {a m b mid:Nat} (xo:m < b) (h:mid < m):gp l a m b mid (mid+m - b) mid:=⟨by omega,fun _=>by omega,fun _=>by omega,.inr (.inl ⟨h,rfl⟩),.inr (.inl ⟨h,rfl⟩)⟩
theorem zuQ {l:List ab} {a m b mid s r c:Nat} (h:gp l a m b mid s r) (h1:s≤c) (h2:c < r) (hc:¬ aM (l.getD (mid+m - 1 - c) ah) (l.getD c ah) < 0):gp l a m b mid (c+1) r:=by
 refine ⟨by omega,fun g=>?_,fun g=>?_,.inr (.inr ?_),h.cr⟩
 ·have:=h.FX g;omega
 ·have:=h.FY g;omega
 ·rw [Nat.add_sub_cancel,show mid+m - (c+1)=mid+m - 1 - c by omega]
  exact Gt hc
theorem zpD {l:List ab} {a m b mid s r c:Nat} (h:gp l a m b mid s r) (h1:s≤c) (h2:c < r) (hc:aM (l.getD (mid+m - 1 - c) ah) (l.getD c ah) < 0):gp l a m b mid s c:=by
 refine ⟨h1,fun g=>?_,fun g=>?_,h.cl,.inr (.inr hc)⟩
 ·have:=h.FX g;omega
 ·have:=h.FY g;omega
theorem zkM {l:List ab} {a m b mid s:Nat} (h:gp l a m b mid s s) (sD:a < m) (xo:m < b) (gH:2*mid≤a+b) (jc:a+b≤2*mid+1):mY l a m b mid s:=by
 obtain ⟨sr,FX,FY,cl,cr⟩:=h
 rcases Nat.lt_or_ge mid m with g|g
 ·obtain ⟨f1,f2⟩:=FY g
  refine ⟨by omega,by omega,f2,by omega,by omega,?_,?_⟩
  ·rcases cl with ⟨e,_⟩|⟨_,e⟩|e
   ·exact .inl e
   ·exact .inr (.inl (by omega))
   ·exact .inr (.inr e)
  ·rcases cr with ⟨e,_⟩|⟨_,e⟩|e
   ·exact .inl e
   ·exact .inr (.inl e)
   ·exact .inr (.inr e)
 ·obtain ⟨f1,f2⟩:=FX g
  refine ⟨f1,f2,by omega,by omega,by omega,?_,?_⟩
  ·rcases cl with ⟨e,_⟩|⟨_,e⟩|e
   ·exact .inl e
   ·exact .inr (.inl (by omega))
   ·exact .inr (.inr e)
  ·rcases cr with ⟨e,_⟩|⟨_,e⟩|e
   ·exact .inl e
   ·exact .inr (.inl e)
   ·exact .inr (.inr e)
theorem zuP {l:List ab} {a m b mid s r c:Nat} (h:gp l a m b mid s r) (h1:s≤c) (h2:c < r) (sD:a < m) (xo:m < b) (gH:2*mid≤a+b) (jc:a+b≤2*mid+1):c+1≤m∧m≤mid+m - 1 - c∧mid+m - 1 - c < b∧c+1≤mid+m:=by
 rcases Nat.lt_or_ge mid m with g|g
 ·obtain ⟨f1,f2⟩:=h.FY g
  omega
 ·obtain ⟨f1,f2⟩:=h.FX g
  omega
theorem Oo {l l':List ab} {a b:Nat} (h:gj l a b) (he:∀ k,a≤k→k < b→l'.getD k ah=l.getD k ah):gj l' a b:=by
 intro k h1 h2
 rw [he k (by omega) h2,he (k - 1) (by omega) (by omega)]
 exact h k h1 h2
theorem zxf {l:List ab} {s m e:Nat} (hs:s≤m) (he:m≤e) (hl:e≤l.length):l=l.take s++((l.take m).drop s++((l.take e).drop m++l.drop e)):=by
 apply List.ext_getElem?
 intro k
 simp only [List.getElem?_append,List.length_take,List.length_drop,List.getElem?_take,List.getElem?_drop]
 repeat' split
 all_goals first|rfl|(exfalso;omega)|(congr 1;omega)
theorem zDg {l l1:List ab} {s m e:Nat} (t:BL l l1 s m e) (hs:s≤m) (he:m≤e) (hl:e≤l.length) (hlen:l1.length=l.length):l1=l.take s++((l.take e).drop m++((l.take m).drop s++l.drop e)):=by
 refine ZN (by simp only [List.length_append,List.length_take,List.length_drop];omega) (fun k=>?_)
 rw [t k]
 simp only [List.getD_eq_getElem?_getD,List.getElem?_append,List.length_take,List.length_drop,List.getElem?_take,List.getElem?_drop]
 repeat' split
 all_goals first|rfl|(exfalso;omega)|(congr 2;omega)
theorem zvV {l l1:List ab} {s m e:Nat} (t:BL l l1 s m e) (hs:s≤m) (he:m≤e) (hl:e≤l.length) (hlen:l1.length=l.length) (aO:∀ i j,s≤i→i < m→m≤j→j < e→cO (l.getD i ah)≠cO (l.getD j ah)):eE l l1:=by
 intro x
 rw [zDg t hs he hl hlen]
 conv=>rhs;rw [zxf hs he hl]
 simp only [List.filter_append]
 by_cases hu:((l.take m).drop s).filter (fun y=>cO y == x)=[]
 ·rw [hu]
  simp
 ·have hv:((l.take e).drop m).filter (fun y=>cO y == x)=[]:=by
   rw [List.filter_eq_nil_iff]
   intro y hy Kd
   apply hu
   rw [List.filter_eq_nil_iff]
   intro z hz hzx
   obtain ⟨j,hj⟩:=List.getElem?_of_mem hy
   obtain ⟨i,hi⟩:=List.getElem?_of_mem hz
   rw [List.getElem?_drop,List.getElem?_take] at hj hi
   split at hj
   ·split at hi
    ·rename_i g1 g2
     refine aO (s+i) (m+j) (by omega) g2 (by omega) g1 ?_
     rw [List.getD_eq_getElem?_getD,List.getD_eq_getElem?_getD,hj,hi]
     simp only [Option.getD_some]
     rw [beq_iff_eq] at Kd hzx
     rw [Kd,hzx]
    ·cases hi
   ·cases hj
  rw [hv]
  simp
theorem zsh {l l1:List ab} {a m b mid s:Nat} (h1:gj l a m) (h2:gj l m b) (p:mY l a m b mid s) (t:BL l l1 s m (mid+m - s)) (hb:b≤l.length) (hlen:l1.length=l.length):eE l l1:=by
 obtain ⟨lo,hi,rM,ge,le,cl,cr⟩:=p
 refine zvV t hi ge (by omega) hlen (fun i j g1 g2 g3 g4 e=>?_)
 rcases cr with cr|cr|cr
 ·omega
 ·omega
 ·have f1:=vj h2 (i:=j) (j:=mid+m - 1 - s) g3 (by omega) (by omega)
  have f2:=vj h1 (i:=s) (j:=i) lo g1 g2
  exact Gq (L6 (YQ f1 cr) f2) e.symm
theorem zv0 {l l1:List ab} {a b i k:Nat} (h2:gj l (a+1) b) (ND:i≤b) (hl:i=a+1∨aM (l.getD (i - 1) ah) (l.getD a ah) < 0) (hak:a≤k) (hk:k < i - 1) (u:tk l l1 a k):aM (l1.getD (k+1) ah) (l1.getD k ah) < 0:=by
 rw [u,u,if_neg (by omega),if_neg (by omega),if_neg (by omega),if_pos rfl]
 rcases hl with hl|hl
 ·omega
 ·exact YQ (vj h2 (i:=k+1) (j:=i - 1) (by omega) (by omega) (by omega)) hl
theorem zoB {l l1:List ab} {a m i k:Nat} (h1:gj l a m) (Nz:a≤i) (hr:i=m∨aM (l.getD m ah) (l.getD i ah) < 0) (rL:i < k) (hkm:k≤m) (u:MK l l1 m k):aM (l1.getD k ah) (l1.getD (k - 1) ah) < 0:=by
 rw [u,u,if_pos rfl,if_neg (by omega),if_neg (by omega)]
 rcases hr with hr|hr
 ·omega
 ·exact L6 hr (vj h1 (i:=i) (j:=k - 1) Nz (by omega) (by omega))
end Go.Am
namespace Go.Am
theorem Ph {P:Program} {T:bD} {t:TypeId} {k:IntKind} {a b:Int}:bU P T .mul t (.int k a) (.int k b)=some (.int k (k.wrap (a*b))):=by
 have h1:((T.desc t).bind fun d=>BM d (.int k a) (.int k b))=none:=by
  cases T.desc t with
  |none=>rfl
  |some d=>cases d <;> rfl
 have h2:gF P (binOp .mul t (.int k a) (.int k b))=some (.int k (k.wrap (a*b))):=by
  simp [binOp,Op.intArith,wj]
 unfold bU
 have hf:pE .mul (.int k a) (.int k b)=none:=rfl
 rw [hf]
 simp [h1,h2]
 exact ⟨⟨rfl,rfl⟩,rfl⟩
theorem ZY {w s a:Nat} (h1:s % w=0) (h2:a % w=0) (h:s < a):s+w≤a:=by
 obtain ⟨i,rfl⟩:=Nat.dvd_of_mod_eq_zero h1
 obtain ⟨j,rfl⟩:=Nat.dvd_of_mod_eq_zero h2
 have dh:i < j:=Nat.lt_of_mul_lt_mul_left h
 rw [show w*i+w=w*(i+1) from (Nat.mul_succ w i).symm]
 exact Nat.mul_le_mul_left w dh
def Bl (l:List ab) (w n a:Nat):Prop:=∀ s,s % w=0→s < a→gj l s (min (s+w) n)
theorem Z9 {l l':List ab} {w n a:Nat} (h:Bl l w n a) (ha:a % w=0) (hs:gj l' a (min (a+w) n)) (ho:EB l l' a (min (a+w) n)) (b:Nat) (hb:b≤a+w):Bl l' w n b:=by
 intro s h1 h2
 rcases Nat.lt_trichotomy s a with g|g|g
 ·have:=ZY h1 ha g
  exact Oo (h s h1 g) (fun k _ _=>ho k (.inl (by omega)))
 ·subst g
  exact hs
 ·have:=ZY ha h1 g
  omega
theorem zDE {l:List ab} {w n:Nat} (h:Bl l w n n) (hw:n≤w):gj l 0 n:=by
 intro k h1 h2
 exact h 0 (Nat.zero_mod _) (by omega) k h1 (by omega)
structure BR (l:List ab) (w n a:Nat):Prop where
 lo:Bl l (2*w) n a
 hi:∀ s,s % w=0→a≤s→s < n→gj l s (min (s+w) n)
theorem zta {l:List ab} {w n:Nat} (h:Bl l w n n):BR l w n 0:=⟨fun s _ g=>absurd g (by omega),fun s h1 _ h2=>h s h1 h2⟩
theorem ztX {w a:Nat} (h:a % (2*w)=0):a % w=0∧(a+w) % w=0:=by
 obtain ⟨i,rfl⟩:=Nat.dvd_of_mod_eq_zero h
 have h1:2*w*i % w=0:=by rw [show 2*w*i=w*(2*i) by rw [Nat.mul_comm 2 w,Nat.mul_assoc]];exact Nat.mul_mod_right _ _
 exact ⟨h1,by rw [Nat.add_mod_right];exact h1⟩
theorem zmu {l:List ab} {w n a:Nat} (h:BR l w n a) (hw:0 < w) (ha:a % (2*w)=0) (hn:a+w < n):gj l a (a+w)∧gj l (a+w) (min (a+2*w) n):=by
 have:=ztX ha
 have g1:=h.hi a this.1 (by omega) (by omega)
 have g2:=h.hi (a+w) this.2 (by omega) hn
 rw [show min (a+w) n=a+w by omega] at g1
 rw [show min (a+w+w) n=min (a+2*w) n by omega] at g2
 exact ⟨g1,g2⟩
theorem zp0 {l l':List ab} {w n a:Nat} (h:BR l w n a) (hw:0 < w) (ha:a % (2*w)=0) (hs:gj l' a (min (a+2*w) n)) (hm:Mv l l' a (min (a+2*w) n)):BR l' w n (min (a+2*w) n):=by
 refine ⟨Z9 h.lo ha hs hm.out _ (by omega),fun s h1 h2 h3=>?_⟩
 exact Oo (h.hi s h1 (by omega) h3) (fun k _ _=>hm.out k (.inr (by omega)))
theorem zCc {l:List ab} {w n a:Nat} (h:BR l w n a) (hw:0 < w) (ha:a % (2*w)=0) (hn:n≤a+w):Bl l (2*w) n n:=by
 intro s h1 h2
 rcases Nat.lt_trichotomy s a with g|g|g
 ·exact h.lo s h1 g
 ·subst g
  have:=h.hi s (ztX ha).1 (by omega) h2
  rw [show min (s+w) n=min (s+2*w) n by omega] at this
  exact this
 ·have:=ZY ha h1 g
  omega
theorem zCb {l:List ab} {w n a:Nat} (h:BR l w n a) (hn:n≤a):Bl l (2*w) n n:=fun s h1 h2=>h.lo s h1 (by omega)
end Go.Am
