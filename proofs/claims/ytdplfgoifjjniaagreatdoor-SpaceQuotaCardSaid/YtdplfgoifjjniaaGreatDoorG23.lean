/- Strings in order, and the texts of atoms: plain facts about lists of bytes. No condition. -/
import Derived.Lib.Bytealg
import Derived.Test.YtdplfgoifjjniaaGreatDoorGText
set_option linter.unusedSimpArgs false
set_option linter.unusedVariables false
namespace Go.Am
open Go.Lib
abbrev Bs:=List UInt8
theorem zhF (a:UInt8):¬ a < a:=by rw [UInt8.lt_iff_toNat_lt];omega
theorem zw6 {a b:UInt8} (h1:¬ a < b) (h2:¬ b < a):a=b:=by
 rw [UInt8.lt_iff_toNat_lt] at h1 h2
 exact UInt8.toNat_inj.1 (by omega)
theorem zhR:∀ a:Bs,compareBytes a a=0
 | []=>rfl
 |a::al=>by rw [compareBytes,if_neg (zhF a),if_neg (zhF a)];exact zhR al
theorem zgh:∀ {a b:Bs},compareBytes a b=0→a=b
 | [],[],_=>rfl
 | [],_::_,h=>by simp [compareBytes] at h
 |_::_,[],h=>by simp [compareBytes] at h
 |a::al,b::bs,h=>by
  rw [compareBytes] at h
  split at h
  ·simp at h
  ·rename_i h1
   split at h
   ·simp at h
   ·rename_i h2
    rw [zw6 h1 h2,zgh h]
theorem zo9:∀ a b:Bs,compareBytes a b = - compareBytes b a
 | [],[]=>rfl
 | [],_::_=>rfl
 |_::_,[]=>rfl
 |a::al,b::bs=>by
  rw [compareBytes,compareBytes]
  by_cases h1:a < b
  ·have h2:¬ b < a:=by rw [UInt8.lt_iff_toNat_lt] at h1 ⊢;omega
   rw [if_pos h1,if_neg h2,if_pos h1]
  ·rw [if_neg h1]
   by_cases h2:b < a
   ·rw [if_pos h2,if_pos h2];rfl
   ·rw [if_neg h2,if_neg h2,if_neg h1];exact zo9 al bs
theorem zlR:∀ {a b c:Bs},compareBytes a b < 0→compareBytes b c < 0→compareBytes a c < 0
 | [],[],_,h,_=>by simp [compareBytes] at h
 | [],_::_,[],_,h=>by simp [compareBytes] at h
 | [],_::_,_::_,_,_=>by simp [compareBytes]
 |_::_,[],_,h,_=>by simp [compareBytes] at h
 |_::_,_::_,[],_,h=>by simp [compareBytes] at h
 |a::al,b::bs,c::cs,h,k=>by
  rw [compareBytes] at h k ⊢
  simp only [UInt8.lt_iff_toNat_lt] at h k ⊢
  by_cases h1:a.toNat < b.toNat
  ·by_cases h2:b.toNat < c.toNat
   ·rw [if_pos (by omega)];decide
   ·rw [if_neg h2] at k
    split at k
    ·simp at k
    ·rw [if_pos (by omega)];decide
  ·rw [if_neg h1] at h
   split at h
   ·simp at h
   ·by_cases h2:b.toNat < c.toNat
    ·rw [if_pos (by omega)];decide
    ·rw [if_neg h2] at k
     split at k
     ·simp at k
     ·rw [if_neg (by omega),if_neg (by omega)]
      exact zlR h k

/-! ### Words and marks -/
def zek (c:UInt8):Prop:=c.toNat≠32∧c.toNat≠40∧c.toNat≠41∧c.toNat≠44
def Word (s:Bs):Prop:=∀ c∈s,zek c
theorem zcT:∀ {s t x y:Bs} {c d:UInt8},Word s→Word t→¬ zek c→¬ zek d→s++c::x=t++d::y→s=t∧c=d∧x=y
 | [],[],x,y,c,d,_,_,_,_,h=>by simp at h;exact ⟨rfl,h.1,h.2⟩
 | [],b::t,x,y,c,d,_,ht,hc,_,h=>by
  simp at h
  exact (hc (by rw [h.1];exact ht b (by simp))).elim
 |a::s,[],x,y,c,d,hs,_,_,hd,h=>by
  simp at h
  exact (hd (by rw [← h.1];exact hs a (by simp))).elim
 |a::s,b::t,x,y,c,d,hs,ht,hc,hd,h=>by
  simp at h
  obtain ⟨h1,h2,h3⟩:=zcT (fun q hq=>hs q (by simp [hq])) (fun q hq=>ht q (by simp [hq])) hc hd h.2
  exact ⟨by rw [h.1,h1],h2,h3⟩
theorem zlu:∀ {s t y:Bs} {d:UInt8},Word s→¬ zek d→s≠t++d::y
 | [],t,y,d,_,_,h=>by cases t <;> simp at h
 |a::s,[],y,d,hs,hd,h=>by
  simp at h
  exact hd (by rw [← h.1];exact hs a (by simp))
 |a::s,b::t,y,d,hs,hd,h=>by
  simp at h
  exact zlu (fun q hq=>hs q (by simp [hq])) hd h.2
def zrg (names:List Bs):Bs:=match names with
 | []=>[]
 |n::ns=>40::(join (n::ns) [44,32]++[41])
def zup (says pred:Bs) (names:List Bs):Bs:=says++[32,115,97,121,115,32]++pred++zrg names
theorem zfu (n m:Bs) (ns:List Bs):join (n::m::ns) [44,32]=n++(44::32::join (m::ns) [44,32]):=by
 simp [join,List.intercalate]
theorem zpl:∀ {l m:List Bs},(∀ n∈l,Word n)→(∀ n∈m,Word n)→l≠[]→m≠[]→join l [44,32]++[41]=join m [44,32]++[41]→l=m
 | [],_,_,_,h,_,_=>(h rfl).elim
 |_::_,[],_,_,_,h,_=>(h rfl).elim
 | [a],[b],ha,hb,_,_,h=>by
  rw [join_one,join_one] at h
  rw [(zcT (ha a (by simp)) (hb b (by simp)) (by simp [zek]) (by simp [zek]) h).1]
 | [a],b::c::m,ha,hb,_,_,h=>by
  rw [join_one,zfu] at h
  simp only [List.append_assoc,List.cons_append] at h
  have:=(zcT (ha a (by simp)) (hb b (by simp)) (by simp [zek]) (by simp [zek]) h).2.1
  simp at this
 |a::c::l,[b],ha,hb,_,_,h=>by
  rw [join_one,zfu] at h
  simp only [List.append_assoc,List.cons_append] at h
  have:=(zcT (ha a (by simp)) (hb b (by simp)) (by simp [zek]) (by simp [zek]) h).2.1
  simp at this
 |a::c::l,b::d::m,ha,hb,_,_,h=>by
  rw [zfu,zfu] at h
  simp only [List.append_assoc,List.cons_append] at h
  obtain ⟨h1,_,h3⟩:=zcT (ha a (by simp)) (hb b (by simp)) (by simp [zek]) (by simp [zek]) h
  simp only [List.cons.injEq,true_and] at h3
  have:=zpl (fun n hn=>ha n (by simp at hn ⊢;exact .inr hn)) (fun n hn=>hb n (by simp at hn ⊢;exact .inr hn)) (by simp) (by simp) h3
  rw [h1,this]
theorem zw1 {s s' p p':Bs} {l l':List Bs} (hs:Word s) (hs':Word s') (hp:Word p) (hp':Word p') (hl:∀ n∈l,Word n) (hl':∀ n∈l',Word n) (h:zup s p l=zup s' p' l'):s=s'∧p=p'∧l=l':=by
 unfold zup at h
 simp only [List.append_assoc,List.cons_append,List.nil_append] at h
 obtain ⟨h1,_,h2⟩:=zcT hs hs' (by simp [zek]) (by simp [zek]) h
 simp only [List.cons.injEq,true_and] at h2
 cases l with
 |nil =>
  cases l' with
  |nil=>simp only [zrg,List.append_nil] at h2;exact ⟨h1,h2,rfl⟩
  |cons n' ns' =>
   simp only [zrg,List.append_nil] at h2
   exact (zlu hp (by simp [zek]) h2).elim
 |cons n ns =>
  cases l' with
  |nil =>
   simp only [zrg,List.append_nil] at h2
   exact (zlu hp' (by simp [zek]) h2.symm).elim
  |cons n' ns' =>
   simp only [zrg] at h2
   obtain ⟨h3,_,h4⟩:=zcT hp hp' (by simp [zek]) (by simp [zek]) h2
   exact ⟨h1,h3,zpl hl hl' (by simp) (by simp) h4⟩
end Go.Am
namespace Go.Am
def rowA (l:List AtomD):List Value:=l.flatMap AtomD.cells
theorem zaC (l:List AtomD):(rowA l).length=l.length*11:=by
 unfold rowA
 induction l with
 |nil=>rfl
 |cons x l ih=>rw [List.flatMap_cons,List.length_append,ih,List.length_cons];show 11+_=_;omega
theorem zpz {l:List AtomD} {i:Nat} {x:AtomD} (h:l[i]? = some x):cut (rowA l) (i*11) 11=some x.cells:=by
 have hi:=(List.getElem?_eq_some_iff.1 h).1
 unfold cut
 rw [if_pos (by rw [zaC];omega)]
 congr 1
 unfold rowA
 induction l generalizing i with
 |nil=>simp at h
 |cons y l ih =>
  cases i with
  |zero =>
   simp at h
   subst h
   rfl
  |succ i =>
   rw [List.flatMap_cons,show (i+1)*11=y.cells.length+i*11 by show _=11+_;omega,List.drop_append]
   have h2:y.cells.drop (y.cells.length+i*11)=[]:=List.drop_of_length_le (by omega)
   rw [h2,List.nil_append,Nat.add_sub_cancel_left]
   exact ih (by simpa using h) (by simpa using hi)
theorem zpA {l:List AtomD} {i:Nat} {x:AtomD} (hi:i < l.length):splice (rowA l) (i*11) x.cells=rowA (l.set i x):=by
 unfold splice
 have hx:x.cells.length=11:=rfl
 rw [hx]
 unfold rowA
 induction l generalizing i with
 |nil=>simp at hi
 |cons y l ih =>
  have hy:y.cells.length=11:=rfl
  cases i with
  |zero =>
   rw [List.set_cons_zero,List.flatMap_cons,List.flatMap_cons,Nat.zero_mul,List.take_zero,List.nil_append,Nat.zero_add,List.drop_append,List.drop_of_length_le (by omega),hy]
   simp
  |succ i =>
   rw [List.set_cons_succ,List.flatMap_cons,List.flatMap_cons,← ih (i:=i) (by simpa using hi)]
   rw [show (i+1)*11=y.cells.length+i*11 by omega,List.take_append,List.take_of_length_le (by omega),Nat.add_sub_cancel_left,show y.cells.length+i*11+11=y.cells.length+(i*11+11) by omega,List.drop_append,List.drop_of_length_le (by omega),Nat.add_sub_cancel_left]
   simp
theorem zb7 {T:Tab} {t u:TypeId} {A i:Nat} {l:List AtomD} {x:AtomD} {h1:Heap} {bs:List Blk} {w:Nat} {K:Value→Heap→Prop} (q:Holds h1 A (.row (rowA l) u false)) (hs:zau T t=some 11) (hi:i < l.length)
 (hK:∀ h',Holds h' A (.row (rowA (l.set i x)) u false)→Chg A (h1.lay bs w) h'→K undef h'):memE (zaZ T t (.pointer (some ⟨A,i*11,none⟩)) x.val (h1.lay bs w)) K:=by
 have hg:(h1.lay bs w).get A=some (.row (rowA l) u false):=q.lay bs w
 have hA:A < (h1.lay bs w).size:=(q.on bs w).lt
 have he:zaZ T t (.pointer (some ⟨A,i*11,none⟩)) x.val (h1.lay bs w)=some ((h1.lay bs w).set A (.row (rowA (l.set i x)) u false)):=by
  unfold zaZ
  simp only [hs,Option.bind_some]
  have h1:x.val.cells.toList=x.cells:=rfl
  have h2:x.val.cells.size=11:=rfl
  have h3:x.cells.length=11:=rfl
  have h4:x.cells.all one=true:=rfl
  rw [if_pos h2,h1]
  unfold zbQ
  rw [hg]
  simp only
  rw [if_pos (by simp only [Bool.and_eq_true,decide_eq_true_eq];exact ⟨by rw [zaC,h3];omega,h4⟩),zpA hi]
 rw [he]
 refine hK _ ⟨by rw [Heap.size_set];exact hA,by rw [Heap.get_set _ _ _ _ hA,if_pos rfl]⟩ ⟨by rw [Heap.size_set];exact Nat.le_refl _,fun B hB hne=>by rw [Heap.get_set _ _ _ _ hA,if_neg hne],by rw [Heap.low_set];omega⟩
theorem zaQ {u:TypeId} {A i:Nat} {l:List AtomD} {x:AtomD} {ro:Bool} {h1:Heap} {bs:List Blk} {w:Nat} (q:Holds h1 A (.row (rowA l) u ro)) (hx:l[i]? = some x):cutO ((h1.lay bs w).get A) (i*11) 11=some x.val:=by
 have hh:(h1.lay bs w).get A=some (.row (rowA l) u ro):=q.lay bs w
 rw [hh]
 show (cut (rowA l) (i*11) 11).map _=_
 rw [zpz hx]
 rfl
/-! ### Swaps, order -/
def zcG (l:List AtomD) (i j:Nat):List AtomD:=(l.set i (l.getD j noAtomD)).set j (l.getD i noAtomD)
theorem zhD (l:List AtomD) (i j:Nat):(zcG l i j).length=l.length:=by unfold zcG;rw [List.length_set,List.length_set]
theorem zaT {l:List AtomD} {i:Nat} (h:i < l.length):l[i]? = some (l.getD i noAtomD):=by
 rw [List.getD_eq_getElem?_getD,List.getElem?_eq_getElem h]
 rfl
theorem zc2 {l:List AtomD} {i j:Nat} (hi:i < l.length) (hj:j < l.length) (k:Nat):(zcG l i j).getD k noAtomD=if k=j then l.getD i noAtomD else if k=i then l.getD j noAtomD else l.getD k noAtomD:=by
 unfold zcG
 rw [List.getD_eq_getElem?_getD,List.getElem?_set,List.length_set]
 by_cases h1:j=k
 ·subst h1
  rw [if_pos rfl,if_pos hj,if_pos rfl]
  rfl
 ·rw [if_neg h1,if_neg (fun e=>h1 e.symm),List.getElem?_set]
  by_cases h2:i=k
  ·subst h2
   rw [if_pos rfl,if_pos hi,if_pos rfl]
   rfl
  ·rw [if_neg h2,if_neg (fun e=>h2 e.symm),List.getD_eq_getElem?_getD]
theorem zhh {l:List AtomD} {i j:Nat} (hi:i < l.length) (hj:j < l.length):(zcG l i j).Perm l:=by
 unfold zcG
 have e1:l.getD i noAtomD=l[i]:=by rw [List.getD_eq_getElem?_getD,List.getElem?_eq_getElem hi];rfl
 have e2:l.getD j noAtomD=l[j]:=by rw [List.getD_eq_getElem?_getD,List.getElem?_eq_getElem hj];rfl
 rw [e1,e2]
 exact List.set_set_perm hi hj
theorem zct (a b:AtomD):cmpD a b = - cmpD b a:=zo9 _ _
theorem zgV {a b:AtomD} (h:¬ cmpD a b < 0):cmpD b a≤0:=by
 rw [zct b a]
 omega
theorem zcL {a b c:AtomD} (h1:cmpD a b≤0) (h2:cmpD b c≤0):cmpD a c≤0:=by
 by_cases e1:cmpD a b=0
 ·have:=zgh e1
  unfold cmpD at *
  rw [this]
  exact h2
 ·by_cases e2:cmpD b c=0
  ·have:=zgh e2
   unfold cmpD at *
   rw [← this]
   exact h1
  ·have h3:cmpD a b < 0:=by omega
   have h4:cmpD b c < 0:=by omega
   exact Int.le_of_lt (zlR h3 h4)
def zaG (l:List AtomD) (a b:Nat):Prop:=∀ k,a < k→k < b→cmpD (l.getD (k - 1) noAtomD) (l.getD k noAtomD)≤0
def zfV (l l':List AtomD) (a b:Nat):Prop:=∀ k,k < a∨b≤k→l'.getD k noAtomD=l.getD k noAtomD
def zrz (l:List AtomD) (a i j:Nat):Prop:=(∀ k,a < k→k≤i→k≠j→cmpD (l.getD (k - 1) noAtomD) (l.getD k noAtomD)≤0)∧(a < j→j < i→cmpD (l.getD (j - 1) noAtomD) (l.getD (j+1) noAtomD)≤0)
theorem zoC {l:List AtomD} {a i:Nat} (h:zaG l a i):zrz l a i i:=⟨fun k h1 h2 h3=>h k h1 (by omega),fun _ h=>by omega⟩
theorem zmX {l:List AtomD} {a i j:Nat} (h:zrz l a i j) (hj:j≤i) (he:a < j→cmpD (l.getD (j - 1) noAtomD) (l.getD j noAtomD)≤0):zaG l a (i+1):=by
 intro k h1 h2
 by_cases hkj:k=j
 ·subst hkj
  exact he h1
 ·exact h.1 k h1 (by omega) hkj
theorem zq2 {l:List AtomD} {a i j:Nat} (h:zrz l a i j) (haj:a < j) (hji:j≤i) (hi:i < l.length) (hlt:cmpD (l.getD j noAtomD) (l.getD (j - 1) noAtomD) < 0):zrz (zcG l j (j - 1)) a i (j - 1):=by
 have g:=fun k=>zc2 (l:=l) (i:=j) (j:=j - 1) (by omega) (by omega) k
 refine ⟨fun k h1 h2 h3=>?_,fun h1 h2=>?_⟩
 ·rw [g,g]
  by_cases e1:k=j
  ·subst e1
   rw [if_pos rfl,if_neg (by omega),if_pos rfl]
   omega
  ·by_cases e2:k=j+1
   ·subst e2
    rw [if_neg (by omega),if_pos (by omega),if_neg (by omega),if_neg (by omega)]
    have:=h.2 haj (by omega)
    exact this
   ·rw [if_neg (by omega),if_neg (by omega),if_neg (by omega),if_neg (by omega)]
    exact h.1 k h1 h2 (by omega)
 ·rw [g,g]
  rw [if_neg (by omega),if_neg (by omega),if_neg (by omega),if_pos (by omega)]
  exact h.1 (j - 1) h1 (by omega) (by omega)
theorem zmV {l l1:List AtomD} {a i j:Nat} (h:zfV l l1 a (i+1)) (haj:a < j) (hji:j≤i) (hi:i < l1.length):zfV l (zcG l1 j (j - 1)) a (i+1):=by
 intro k hk
 rw [zc2 (by omega) (by omega),if_neg (by omega),if_neg (by omega)]
 exact h k hk
theorem zcp {l l1:List AtomD} (h:∀ x∈l,x.light=true) (p:l1.Perm l):∀ x∈l1,x.light=true:=fun x hx=>h x (p.mem_iff.1 hx)
theorem za2 {l:List AtomD} (h:∀ x∈l,x.light=true) {k:Nat} (hk:k < l.length):(l.getD k noAtomD).light=true:=h _ (List.mem_of_getElem? (zaT hk))
def zhk (l l':List AtomD) (a b n:Nat):Prop:=∀ k,l'.getD k noAtomD=if a≤k∧k < a+n then l.getD (k - a+b) noAtomD else if b≤k∧k < b+n then l.getD (k - b+a) noAtomD else l.getD k noAtomD
theorem zoO (l:List AtomD) (a b:Nat):zhk l l a b 0:=by
 intro k
 rw [if_neg (by omega),if_neg (by omega)]
theorem zoN {l l1:List AtomD} {a b n i:Nat} (h:zhk l l1 a b i) (hd:a+n≤b) (hi:i < n) (hb:b+n≤l1.length):zhk l (zcG l1 (a+i) (b+i)) a b (i+1):=by
 intro k
 rw [zc2 (by omega) (by omega),h,h,h]
 repeat' split
 all_goals first|rfl|(exfalso;omega)|(congr 1;omega)
def znr (t cur:List AtomD) (m i j:Nat):Prop:=∀ k,t.getD k noAtomD=if m - i≤k∧k < m+j then (if k < m - i+j then cur.getD (k+i) noAtomD else cur.getD (k - j) noAtomD) else cur.getD k noAtomD
theorem zrn {t cur new:List AtomD} {m i j:Nat} (h:znr t cur m i j) (him:i≤m) (hij:j < i) (hs:zhk cur new (m - i) m j):znr t new m (i - j) j:=by
 intro k
 rw [h k,hs k,hs (k+(i - j)),hs (k - j)]
 repeat' split
 all_goals first|rfl|(exfalso;omega)|(congr 1;omega)
theorem zoU {t cur new:List AtomD} {m i j:Nat} (h:znr t cur m i j) (him:i≤m) (hij:i < j) (hs:zhk cur new (m - i) (m+j - i) i):znr t new m i (j - i):=by
 intro k
 rw [h k,hs k,hs (k+i),hs (k - (j - i))]
 repeat' split
 all_goals first|rfl|(exfalso;omega)|(congr 1;omega)
theorem zuw {t cur new:List AtomD} {m i:Nat} (h:znr t cur m i i) (him:i≤m) (hs:zhk cur new (m - i) m i):∀ k,t.getD k noAtomD=new.getD k noAtomD:=by
 intro k
 rw [h k,hs k]
 repeat' split
 all_goals first|rfl|(exfalso;omega)|(congr 1;omega)
theorem zkQ {l m:List AtomD} (hl:l.length=m.length) (h:∀ k,l.getD k noAtomD=m.getD k noAtomD):l=m:=by
 apply List.ext_getElem hl
 intro k h1 h2
 have:=h k
 rw [List.getD_eq_getElem?_getD,List.getD_eq_getElem?_getD,List.getElem?_eq_getElem h1,List.getElem?_eq_getElem h2] at this
 exact this
def zjK (l:List AtomD) (a m b:Nat):List AtomD:=(List.range l.length).map fun k=>if a≤k∧k < b then (if k < a+(b - m) then l.getD (k+(m - a)) noAtomD else l.getD (k - (b - m)) noAtomD) else l.getD k noAtomD
theorem zhE (l:List AtomD) (a m b:Nat):(zjK l a m b).length=l.length:=by unfold zjK;rw [List.length_map,List.length_range]
theorem zpj {l:List AtomD} {k:Nat} (h:l.length≤k):l.getD k noAtomD=noAtomD:=by
 rw [List.getD_eq_getElem?_getD,List.getElem?_eq_none h]
 rfl
theorem zgL {l:List AtomD} {a m b:Nat} (hb:b≤l.length) (k:Nat):(zjK l a m b).getD k noAtomD=if a≤k∧k < b then (if k < a+(b - m) then l.getD (k+(m - a)) noAtomD else l.getD (k - (b - m)) noAtomD) else l.getD k noAtomD:=by
 by_cases hk:k < l.length
 ·rw [List.getD_eq_getElem?_getD]
  unfold zjK
  rw [List.getElem?_map,List.getElem?_range hk]
  rfl
 ·rw [zpj (by rw [zhE];omega),if_neg (by omega),zpj (by omega)]
theorem zoV {l:List AtomD} {a m b:Nat} (ham:a≤m) (hmb:m≤b) (hb:b≤l.length):znr (zjK l a m b) l m (m - a) (b - m):=by
 intro k
 rw [zgL hb]
 repeat' split
 all_goals first|rfl|(exfalso;omega)|(congr 1;omega)
/-! ### Equal texts keep their order -/
def Stab (l l':List AtomD):Prop:=∀ t:List UInt8,l'.filter (fun x=>zaP x == t)=l.filter (fun x=>zaP x == t)
theorem Stab.refl (l:List AtomD):Stab l l:=fun _=>rfl
theorem Stab.trans {l l1 l2:List AtomD} (x:Stab l l1) (y:Stab l1 l2):Stab l l2:=fun t=>(y t).trans (x t)
theorem zfD {a b:AtomD} (h:cmpD a b < 0):zaP a≠zaP b:=by
 intro e
 unfold cmpD at h
 rw [e,zhR] at h
 omega
theorem zji:∀ {l:List AtomD} {k:Nat},k+1 < l.length→zaP (l.getD k noAtomD)≠zaP (l.getD (k+1) noAtomD)→Stab l (zcG l k (k+1))
 | [],k,hk,_=>by simp at hk
 | [x],k,hk,_=>by simp at hk
 |x::y::r,0,_,hne=>by
  intro t
  have e:zcG (x::y::r) 0 1=y::x::r:=rfl
  rw [e]
  have hne':zaP x≠zaP y:=hne
  by_cases hx:zaP x=t
  ·have hy:¬ zaP y=t:=fun h=>hne' (hx.trans h.symm)
   simp [List.filter_cons,hx,hy]
  ·simp [List.filter_cons,hx]
 |x::y::r,k+1,hk,hne=>by
  intro t
  have e:zcG (x::y::r) (k+1) (k+1+1)=x::zcG (y::r) k (k+1):=rfl
  rw [e,List.filter_cons,List.filter_cons,zji (l:=y::r) (k:=k) (by simpa using hk) hne t]
theorem zra {l:List AtomD} {i j:Nat} (hi:i < l.length) (hj:j < l.length):zcG l i j=zcG l j i:=by
 refine zkQ (by rw [zhD,zhD]) (fun k=>?_)
 rw [zc2 hi hj,zc2 hj hi]
 repeat' split
 all_goals first|rfl|(subst_vars;rfl)
theorem zm5 {l:List AtomD} {j:Nat} (h0:0 < j) (hj:j < l.length) (hlt:cmpD (l.getD j noAtomD) (l.getD (j - 1) noAtomD) < 0):Stab l (zcG l j (j - 1)):=by
 rw [zra hj (by omega)]
 have:=zji (l:=l) (k:=j - 1) (by omega) (by rw [show j - 1+1=j by omega];exact fun e=>zfD hlt e.symm)
 rwa [show j - 1+1=j by omega] at this
theorem zzp {l:List AtomD} {k:Nat} (hk:k+1 < l.length) (hlt:cmpD (l.getD (k+1) noAtomD) (l.getD k noAtomD) < 0):Stab l (zcG l k (k+1)):=zji hk (fun e=>zfD hlt e.symm)
end Go.Am
